/-
 Texts of a proof, one behind the other (part 48).
-/
import Derived.Test.YtmmdkjanmegjdaaGreatRv1
import Derived.Test.YtmmdkjanmegjdaaGreatRv2
import Derived.Test.YtmmdkjanmegjdaaGreatRv4
import Derived.Test.YtmmdkjanmegjdaaGreatRv28
import Derived.Test.YtmmdkjanmegjdaaGreatRv32
set_option linter.unusedSimpArgs false
set_option linter.unusedVariables false
namespace Go.Proofs.YtmmdkjanmegjdaaGreat.Ab
set_option maxRecDepth 100000
open Go.RowKit
attribute [local irreducible] AWp AOps AQ AYield AEff ACall AWk AAny AAt AThen AIn APost NoPanic

def usedA (u : Nat → Int) : List AVal := (List.range 33).map fun b => intA (u b)
def tblB (m : Nat) (u : Nat → Int) : ABlk := .var (.mp m :: usedA u)
def rmapB (l : List (Pfx × List Rte)) : ABlk := .map (ents pfxA rtesA l)
theorem zpA : ACall Tryz.prog 25 [] [] (fun c h => c = .ptr 3 0 ∧ h = [(3, tblB 902 fun _ => 0), (902, rmapB [])]) := by
 refine zf za Tryz.func25 rfl Tryz.ntmps25 (congrArg Array.toList Tryz.results25) (by kernel_rfl) rfl ?_
 repeat (first | refine q_Y ?_ | ((first | apply q_K rfl | apply q_X rfl); (exact q_H)) | refine q_U ?_ | (refine zc1 902 rfl rfl rfl rfl rfl ?_))
 exact zo AWk.refl rfl (h2 := [(3, tblB 902 fun _ => 0), (902, rmapB [])]) ⟨rfl, rfl, trivial⟩ ⟨rfl, rfl⟩
theorem zoi {id : Nat} {cs cs' : List AVal} {h : Heap} (hc : cs = cs') (hl : look h id = some (.var cs)) : look h id = some (.var cs') := by subst hc; exact hl
def bump (u : Nat → Int) (b : Nat) (d : Int) : Nat → Int := fun j => if j = b then u j + d else u j
theorem zb4 (m : Nat) (u : Nat → Int) (b : Nat) (hb : b < 33) : win (.mp m :: usedA u) (0 + 1 + b * 1) 1 = [intA (u b)] := by
 have h1 : (AVal.mp m :: usedA u)[1 + b]? = some (intA (u b)) := by
  rw [show 1 + b = b + 1 by omega, List.getElem?_cons_succ]
  simp [usedA, List.getElem?_map, List.getElem?_range hb]
 have h2 : 1 + b < (AVal.mp m :: usedA u).length := (List.getElem?_eq_some_iff.1 h1).1
 unfold win
 rw [show 0 + 1 + b * 1 = 1 + b by omega, List.drop_eq_getElem_cons h2]
 have h3 := (List.getElem?_eq_some_iff.1 h1).2
 rw [List.take_succ_cons, List.take_zero, h3]
theorem zkn (m : Nat) (u : Nat → Int) (b : Nat) (d : Int) (hb : b < 33) : setW (.mp m :: usedA u) (0 + 1 + b * 1) [intA (u b + d)] = .mp m :: usedA (bump u b d) := by
 apply List.ext_getElem?
 intro i
 rw [zak (by simp [usedA]; omega)]
 cases i with
 | zero => simp
 | succ i =>
  simp only [List.getElem?_cons_succ, List.length_cons, List.length_nil, usedA, List.getElem?_map]
  by_cases hi : i < 33
  ·rw [List.getElem?_range hi]
   by_cases he : i = b
   ·subst he
    rw [if_pos (by omega)]
    simp [bump]
    rw [show i + 1 - (1 + i) = 0 by omega]
    rfl
   ·rw [if_neg (by omega)]
    simp [bump, he]
  ·have h0 : (List.range 33)[i]? = none := by simp; omega
   rw [h0, if_neg (by omega)]
   rfl
theorem zeroRts (W : World) : (zeroValue 35).run Tryz.prog W = .ok (.slice none 0 0) W := by
 have h : tlook tab 35 = some _ := rfl
 obtain ⟨z, h1, h2, i, h3, h4, _⟩ := (za _ _ h).zero W
 have h5 : (Tryz.prog.info? 35).bind (·.zero) = some (.slice none 0 0) := by kernel_rfl
 rw [h3] at h5
 simp only [Option.bind_some] at h5
 rw [h4] at h5
 cases h5
 exact h1
theorem zal (id : Nat) (l : List (Pfx × List Rte)) : some (killB id (rmapB l)) = some (rmapB l) := by
 show some (ABlk.map ((l.map fun p => (pfxA p.1, rtesA p.2)).map fun p => (killV id p.1, killV id p.2))) = _
 rw [List.map_map]
 rfl
set_option maxHeartbeats 2000000 in
theorem zpy (u : Nat → Int) (l : List (Pfx × List Rte)) (p : Pfx) (v : List Rte) (hp : p.ok) (hn : (l.map (·.1)).Nodup) (hu : ∀ j, 0 ≤ u j ∧ u j ≤ 1000000000) :
  ACall Tryz.prog 27 [.ptr 1000 0, pfxA p, rtesA v] [(1000, tblB 1001 u), (1001, rmapB l)] (fun c h => c = intA (chk p) ∧ h = if chk p = 0 then [(1000, tblB 1001 (if (aget l p).isSome then u else bump u p.b.toNat 1)), (1001, rmapB (Go.Proofs.YtmmdkjanmegjdaaGreat.aput l p v))] else [(1000, tblB 1001 u), (1001, rmapB l)]) := by
 refine zf za Tryz.func27 rfl Tryz.ntmps27 (congrArg Array.toList Tryz.results27) (by kernel_rfl) rfl ?_
 have hck := znw p hp
 by_cases hc : chk p = 0
 ·rw [hc] at hck ⊢
  simp only [if_true]
  have hg := (zbl p).1 hc
  obtain ⟨a, b⟩ := p
  obtain ⟨B, rfl⟩ : ∃ B : Nat, b = (B : Int) := ⟨b.toNat, by have := hg.1; simp at this; omega⟩
  have hB : B < 33 := by have := hg.2.1; simp at this; omega
  have huB := hu B
  refine z7 ?_
  refine zab ?_
  refine q_d ?_
  refine zB (zm (e1 := [(0, .ptr 1000 0), (2, rtesA v), (4, .ptr 4 0)]) (h1 := [(4, .var [.d (.sc (.int .u32 a)), .d (.sc (.int .i64 (B : Int)))]), (1000, tblB 1001 u), (1001, rmapB l)]) ⟨rfl, rfl, rfl, trivial⟩ ⟨rfl, rfl, zal 4 l, trivial⟩) ?_
  cases hag : aget l ⟨a, (B : Int)⟩ with
  | none =>
   repeat (first | refine q_Y ?_ | ((first | apply q_K rfl | apply q_X rfl); (first | exact q_H | (first | exact zd7 za rfl rfl rfl rfl rfl | exact zae rfl rfl rfl | exact zgs pfxKey zq zeroRts rfl trivial (fun _ _ => trivial) hn hag za rfl rfl rfl rfl rfl rfl))) | refine q_U ?_ | refine q_O hck ?_)
   refine zA [1000] mixed ?_
   repeat (first | ((first | apply q_M 0 rfl rfl (by kernel_rfl) (by decide +kernel) (by decide +kernel) rfl rfl rfl | apply q_M 1 rfl rfl (by kernel_rfl) (by decide +kernel) (by decide +kernel) rfl rfl rfl | apply q_M 2 rfl rfl (by kernel_rfl) (by decide +kernel) (by decide +kernel) rfl rfl rfl | apply q_M 3 rfl rfl (by kernel_rfl) (by decide +kernel) (by decide +kernel) rfl rfl rfl | apply q_M 4 rfl rfl (by kernel_rfl) (by decide +kernel) (by decide +kernel) rfl rfl rfl | apply q_M 5 rfl rfl (by kernel_rfl) (by decide +kernel) (by decide +kernel) rfl rfl rfl | apply q_M 6 rfl rfl (by kernel_rfl) (by decide +kernel) (by decide +kernel) rfl rfl rfl | apply q_M 7 rfl rfl (by kernel_rfl) (by decide +kernel) (by decide +kernel) rfl rfl rfl | apply q_M 8 rfl rfl (by kernel_rfl) (by decide +kernel) (by decide +kernel) rfl rfl rfl | apply q_M 9 rfl rfl (by kernel_rfl) (by decide +kernel) (by decide +kernel) rfl rfl rfl | apply q_M 10 rfl rfl (by kernel_rfl) (by decide +kernel) (by decide +kernel) rfl rfl rfl | apply q_M 11 rfl rfl (by kernel_rfl) (by decide +kernel) (by decide +kernel) rfl rfl rfl ); (first | exact q_H | (first | exact zae rfl rfl rfl | exact zpI za rfl rfl rfl rfl rfl rfl rfl hB))) | (apply q_L 2 rfl rfl (by kernel_rfl) (by decide +kernel) (by decide +kernel) rfl rfl rfl; (first | exact q_5 | exact q_7 | exact q_19 | exact zde za rfl rfl rfl rfl rfl rfl (zb4 _ _ _ hB) rfl rfl)) | (apply q_L 3 rfl rfl (by kernel_rfl) (by decide +kernel) (by decide +kernel) rfl rfl rfl; (first | exact q_5 | exact q_7 | exact q_19 | exact zde za rfl rfl rfl rfl rfl rfl (zb4 _ _ _ hB) rfl rfl)) | (apply q_L 4 rfl rfl (by kernel_rfl) (by decide +kernel) (by decide +kernel) rfl rfl rfl; (first | exact q_5 | exact q_7 | exact q_19 | exact zde za rfl rfl rfl rfl rfl rfl (zb4 _ _ _ hB) rfl rfl)) | (apply q_L 5 rfl rfl (by kernel_rfl) (by decide +kernel) (by decide +kernel) rfl rfl rfl; (first | exact q_5 | exact q_7 | exact q_19 | exact zde za rfl rfl rfl rfl rfl rfl (zb4 _ _ _ hB) rfl rfl)) | (apply q_L 6 rfl rfl (by kernel_rfl) (by decide +kernel) (by decide +kernel) rfl rfl rfl; (first | exact q_5 | exact q_7 | exact q_19 | exact zde za rfl rfl rfl rfl rfl rfl (zb4 _ _ _ hB) rfl rfl)) | refine zd (j := 0) (by decide +kernel) ?_ | refine zd (j := 1) (by decide +kernel) ?_ | refine zd (j := 2) (by decide +kernel) ?_ | refine zd (j := 3) (by decide +kernel) ?_ | refine zd (j := 4) (by decide +kernel) ?_ | refine zd (j := 5) (by decide +kernel) ?_ | refine zd (j := 6) (by decide +kernel) ?_ | refine zd (j := 7) (by decide +kernel) ?_ | refine zd (j := 8) (by decide +kernel) ?_ | refine zd (j := 9) (by decide +kernel) ?_ | refine zd (j := 10) (by decide +kernel) ?_ | refine zd (j := 11) (by decide +kernel) ?_ | refine zW za rfl rfl rfl rfl rfl rfl rfl ?_ | refine zJ za rfl rfl rfl rfl rfl rfl rfl rfl rfl rfl rfl rfl rfl ?_ | (apply zP rfl rfl rfl rfl; (first | exact q_2 | exact q_1 | first | exact q_5 | exact q_7 | exact q_19 | exact zde za rfl rfl rfl rfl rfl rfl (zb4 _ _ _ hB) rfl rfl)) | refine zz (by decide +kernel) ?_ | refine zl8 za rfl rfl rfl rfl rfl rfl rfl rfl rfl rfl rfl rfl (by simp [usedA]; omega) ?_)
   repeat (first | refine q_Y ?_ | ((first | apply q_K rfl | apply q_X rfl); (exact q_H)) | refine q_U ?_)
   refine zt (zm (e1 := [(0, .ptr 1000 0), (2, rtesA v), (4, .ptr 4 0)]) (h1 := [(4, .var [.d (.sc (.int .u32 a)), .d (.sc (.int .i64 (B : Int)))]), (1000, tblB 1001 (bump u B 1)), (1001, rmapB l)]) ⟨rfl, rfl, rfl, trivial⟩ ⟨rfl, zoi (zkn 1001 u B 1 hB) rfl, rfl, trivial⟩) ?_
   refine zA [1001] mixed ?_
   repeat (first | ((first | apply q_M 0 rfl rfl (by kernel_rfl) (by decide +kernel) (by decide +kernel) rfl rfl rfl | apply q_M 1 rfl rfl (by kernel_rfl) (by decide +kernel) (by decide +kernel) rfl rfl rfl | apply q_M 2 rfl rfl (by kernel_rfl) (by decide +kernel) (by decide +kernel) rfl rfl rfl | apply q_M 3 rfl rfl (by kernel_rfl) (by decide +kernel) (by decide +kernel) rfl rfl rfl | apply q_M 4 rfl rfl (by kernel_rfl) (by decide +kernel) (by decide +kernel) rfl rfl rfl | apply q_M 5 rfl rfl (by kernel_rfl) (by decide +kernel) (by decide +kernel) rfl rfl rfl | apply q_M 6 rfl rfl (by kernel_rfl) (by decide +kernel) (by decide +kernel) rfl rfl rfl ); (first | exact q_H | exact zae rfl rfl rfl)) | (apply q_L 3 rfl rfl (by kernel_rfl) (by decide +kernel) (by decide +kernel) rfl rfl rfl; (first | exact q_5 | exact q_7 | exact q_19)) | (apply q_L 4 rfl rfl (by kernel_rfl) (by decide +kernel) (by decide +kernel) rfl rfl rfl; (first | exact q_5 | exact q_7 | exact q_19)) | (apply q_L 5 rfl rfl (by kernel_rfl) (by decide +kernel) (by decide +kernel) rfl rfl rfl; (first | exact q_5 | exact q_7 | exact q_19)) | refine zd (j := 0) (by decide +kernel) ?_ | refine zd (j := 1) (by decide +kernel) ?_ | refine zd (j := 2) (by decide +kernel) ?_ | refine zd (j := 3) (by decide +kernel) ?_ | refine zd (j := 4) (by decide +kernel) ?_ | refine zd (j := 5) (by decide +kernel) ?_ | refine zd (j := 6) (by decide +kernel) ?_ | refine zW za rfl rfl rfl rfl rfl rfl rfl ?_ | refine zJ za rfl rfl rfl rfl rfl rfl rfl rfl rfl rfl rfl rfl rfl ?_ | (apply zP rfl rfl rfl rfl; (first | exact q_2 | exact q_1 | first | exact q_5 | exact q_7 | exact q_19)) | refine zz (by decide +kernel) ?_ | refine zoc (k := ⟨a, (B : Int)⟩) (xa := rtesA) (q := v) pfxKey zq zbN trivial (fun _ _ => trivial) hn za rfl rfl rfl rfl rfl rfl rfl rfl rfl rfl ?_)
   repeat (first | refine q_Y ?_ | ((first | apply q_K rfl | apply q_X rfl); (exact q_H)) | refine q_U ?_)
   exact zo AWk.refl rfl (h2 := [(1000, tblB 1001 (bump u B 1)), (1001, rmapB (Go.Proofs.YtmmdkjanmegjdaaGreat.aput l ⟨a, (B : Int)⟩ v))]) ⟨rfl, rfl, trivial⟩ ⟨rfl, rfl⟩
  | some x =>
   repeat (first | refine q_Y ?_ | ((first | apply q_K rfl | apply q_X rfl); (first | exact q_H | (first | exact zd7 za rfl rfl rfl rfl rfl | exact zae rfl rfl rfl | exact zd8 pfxKey zq zeroRts trivial (fun _ _ => trivial) hn hag za rfl rfl rfl rfl rfl rfl))) | refine q_U ?_ | refine q_O hck ?_)
   refine zA [1001] mixed ?_
   repeat (first | ((first | apply q_M 0 rfl rfl (by kernel_rfl) (by decide +kernel) (by decide +kernel) rfl rfl rfl | apply q_M 1 rfl rfl (by kernel_rfl) (by decide +kernel) (by decide +kernel) rfl rfl rfl | apply q_M 2 rfl rfl (by kernel_rfl) (by decide +kernel) (by decide +kernel) rfl rfl rfl | apply q_M 3 rfl rfl (by kernel_rfl) (by decide +kernel) (by decide +kernel) rfl rfl rfl | apply q_M 4 rfl rfl (by kernel_rfl) (by decide +kernel) (by decide +kernel) rfl rfl rfl | apply q_M 5 rfl rfl (by kernel_rfl) (by decide +kernel) (by decide +kernel) rfl rfl rfl | apply q_M 6 rfl rfl (by kernel_rfl) (by decide +kernel) (by decide +kernel) rfl rfl rfl ); (first | exact q_H | exact zae rfl rfl rfl)) | (apply q_L 3 rfl rfl (by kernel_rfl) (by decide +kernel) (by decide +kernel) rfl rfl rfl; (first | exact q_5 | exact q_7 | exact q_19)) | (apply q_L 4 rfl rfl (by kernel_rfl) (by decide +kernel) (by decide +kernel) rfl rfl rfl; (first | exact q_5 | exact q_7 | exact q_19)) | (apply q_L 5 rfl rfl (by kernel_rfl) (by decide +kernel) (by decide +kernel) rfl rfl rfl; (first | exact q_5 | exact q_7 | exact q_19)) | refine zd (j := 0) (by decide +kernel) ?_ | refine zd (j := 1) (by decide +kernel) ?_ | refine zd (j := 2) (by decide +kernel) ?_ | refine zd (j := 3) (by decide +kernel) ?_ | refine zd (j := 4) (by decide +kernel) ?_ | refine zd (j := 5) (by decide +kernel) ?_ | refine zd (j := 6) (by decide +kernel) ?_ | refine zW za rfl rfl rfl rfl rfl rfl rfl ?_ | refine zJ za rfl rfl rfl rfl rfl rfl rfl rfl rfl rfl rfl rfl rfl ?_ | (apply zP rfl rfl rfl rfl; (first | exact q_2 | exact q_1 | first | exact q_5 | exact q_7 | exact q_19)) | refine zz (by decide +kernel) ?_ | refine zoc (k := ⟨a, (B : Int)⟩) (xa := rtesA) (q := v) pfxKey zq zbN trivial (fun _ _ => trivial) hn za rfl rfl rfl rfl rfl rfl rfl rfl rfl rfl ?_)
   repeat (first | refine q_Y ?_ | ((first | apply q_K rfl | apply q_X rfl); (exact q_H)) | refine q_U ?_)
   exact zo AWk.refl rfl (h2 := [(1000, tblB 1001 u), (1001, rmapB (Go.Proofs.YtmmdkjanmegjdaaGreat.aput l ⟨a, (B : Int)⟩ v))]) ⟨rfl, rfl, trivial⟩ ⟨rfl, rfl⟩
 ·simp only [hc, if_false]
  have hR : (fun c h => c = intA (chk p) ∧ h = [(1000, tblB 1001 u), (1001, rmapB l)]) = (fun c h => c = intA (chk p) ∧ h = [(1000, tblB 1001 u), (1001, rmapB l)]) := rfl
  refine z7 ?_
  refine zab ?_
  refine q_d ?_
  refine zB (zm (e1 := [(0, .ptr 1000 0), (2, rtesA v), (4, .ptr 4 0)]) (h1 := [(4, .var [.d (.sc (.int .u32 p.a)), .d (.sc (.int .i64 p.b))]), (1000, tblB 1001 u), (1001, rmapB l)]) ⟨rfl, rfl, rfl, trivial⟩ ⟨rfl, rfl, zal 4 l, trivial⟩) ?_
  repeat (first | refine q_Y ?_ | ((first | apply q_K rfl | apply q_X rfl); (first | exact q_H | (first | exact zd7 za rfl rfl rfl rfl rfl))) | refine q_U ?_ | refine q_O hck ?_)
  exact zo AWk.refl rfl (h2 := [(1000, tblB 1001 u), (1001, rmapB l)]) ⟨rfl, rfl, trivial⟩ ⟨rfl, rfl⟩
theorem zgD (x : Int) (k : Nat) (hk : k ≤ 32) (x0 : 0 ≤ x) (x1 : x < 4294967296) : ACall Tryz.prog 84 [.d (.sc (.int .u32 x)), intA (k : Int)] [] (Just (.tup [pfxA (sub x k), intA 0])) :=
 zbo (by kernel_rfl) rfl rfl rfl fun w => zfb x (k : Int) w (by omega) (by omega) x0 x1
def overS (u : Nat → Int) (l : List (Pfx × List Rte)) (x : Int) (k : Nat) : List Pfx := ((List.range k).filter fun b => !(u b == 0) && (aget l (sub x (b : Nat))).isSome).map fun b => sub x (b : Nat)
theorem zgR (u : Nat → Int) (l : List (Pfx × List Rte)) (x : Int) (k : Nat) (h1 : u k ≠ 0) {z : List Rte} (h2 : aget l (sub x (k : Nat)) = some z) : overS u l x (k + 1) = overS u l x k ++ [sub x (k : Nat)] := by
 unfold overS
 rw [List.range_succ, List.filter_append, List.map_append]
 simp [h1, h2]
theorem zgQ (u : Nat → Int) (l : List (Pfx × List Rte)) (x : Int) (k : Nat) (h1 : u k = 0 ∨ aget l (sub x (k : Nat)) = none) : overS u l x (k + 1) = overS u l x k := by
 unfold overS
 rw [List.range_succ, List.filter_append, List.map_append]
 rcases h1 with h1 | h1 <;> simp [h1]
theorem zfw (u : Nat → Int) (l : List (Pfx × List Rte)) (x : Int) (k : Nat) : (overS u l x k).length ≤ k := by
 unfold overS
 rw [List.length_map]
 exact Nat.le_trans (List.length_filter_le _ _) (by simp)
theorem kill3 (i j k : Nat) (l : List (Pfx × List Rte)) : some (killB i (killB j (killB k (rmapB l)))) = some (rmapB l) := by
 have h : ∀ i, killB i (rmapB l) = rmapB l := fun i => Option.some.inj (zal i l)
 rw [h, h, h]
theorem zic (id : Nat) (x : Dat) (l : List (Pfx × List Rte)) : some (frB id x (rmapB l)) = some (rmapB l) := by
 show some (ABlk.map ((l.map fun p => (pfxA p.1, rtesA p.2)).map fun p => (frV id x p.1, frV id x p.2))) = _
 rw [List.map_map]
 rfl
set_option maxHeartbeats 4000000 in
theorem zoL (u : Nat → Int) (l : List (Pfx × List Rte)) (x : Int) (x0 : 0 ≤ x) (x1 : x < 4294967296) (hn : (l.map (·.1)).Nodup) :
  ACall Tryz.prog 54 [.ptr 1000 0, .d (.sc (.int .u32 x))] [(1000, tblB 1001 u), (1001, rmapB l)] (fun c h => c = pfxsA (overS u l x 33) ∧ h = [(1000, tblB 1001 u), (1001, rmapB l)]) := by
 refine zf za Tryz.func54 rfl Tryz.ntmps54 (congrArg Array.toList Tryz.results54) (by kernel_rfl) rfl ?_
 repeat (first | refine q_Y ?_ | ((first | apply q_K rfl | apply q_X rfl); (first | exact q_H | (first | exact zd7 za rfl rfl rfl rfl rfl | exact zae rfl rfl rfl))) | refine q_U ?_)
 refine zt (zbn 47 2 (t := 5) (id := 5) rfl rfl) ?_
 refine zw (fun k : Nat => [(0, .ptr 1000 0), (1, .d (.sc (.int .u32 x))), (5, .row 5), (17, .agg (usedA u)), (18, intA (k : Int))]) (fun k => [(5, .row 47 2 (overS u l x k).length ((overS u l x k).flatMap pfxD)), (1000, tblB 1001 u), (1001, rmapB l)]) (fun k => k ≤ 33) (fun k => 33 - k) 0 (by omega) (zm ⟨rfl, rfl, rfl, rfl, rfl, trivial⟩ ⟨rfl, rfl, zal 5 l, trivial⟩) ?_
 intro k hk
 dsimp only
 have hlen := zfw u l x k
 by_cases hlt : k < 33
 ·have hk32 : k ≤ 32 := by omega
  have huk : (usedA u)[k]? = some (intA (u k)) := by simp [usedA, List.getElem?_map, List.getElem?_range hlt]
  by_cases h0 : u k = 0
  ·
   repeat (first | refine q_Y ?_ | ((first | apply q_K rfl | apply q_X rfl); (first | exact q_H | (first | exact zmd za rfl rfl rfl rfl rfl rfl rfl hlt huk))) | refine q_U ?_)
   exact ⟨k + 1, by omega, by omega, zm ⟨rfl, rfl, rfl, rfl, rfl, trivial⟩ ⟨by rw [zgQ u l x k (.inl h0)]; rfl, rfl, rfl, trivial⟩⟩
  ·cases hag : aget l (sub x (k : Nat)) with
   | none =>
    repeat (first | refine q_Y ?_ | ((first | apply q_K rfl | apply q_X rfl); (first | exact q_H | (first | exact zmd za rfl rfl rfl rfl rfl rfl rfl hlt huk | exact zae rfl rfl rfl | exact zgs pfxKey zq zeroRts rfl trivial (fun _ _ => trivial) hn hag za rfl rfl rfl (zal 8 l) rfl rfl))) | refine q_U ?_ | refine O_c rfl rfl rfl rfl rfl (zgD x k hk32 x0 x1) (fun _ => rfl) ?_)
    exact ⟨k + 1, by omega, by omega, zm ⟨rfl, rfl, rfl, rfl, rfl, trivial⟩ ⟨by rw [zgQ u l x k (.inr hag)]; rfl, rfl, zal 8 l, trivial⟩⟩
   | some z =>
    repeat (first | refine q_Y ?_ | ((first | apply q_K rfl | apply q_X rfl); (first | exact q_H | (first | exact zmd za rfl rfl rfl rfl rfl rfl rfl hlt huk | exact zae rfl rfl rfl | exact zd8 pfxKey zq zeroRts trivial (fun _ _ => trivial) hn hag za rfl rfl rfl (zal 8 l) rfl rfl))) | refine q_U ?_ | (first | refine O_c rfl rfl rfl rfl rfl (zgD x k hk32 x0 x1) (fun _ => rfl) ?_ | (first | refine zaE za rfl rfl rfl rfl rfl rfl rfl rfl rfl rfl rfl (by first | exact Src.row rfl | exact Src.dat _ _ | exact Src.nil) rfl (by omega) ?_ | refine zaF za rfl rfl rfl rfl rfl rfl rfl rfl rfl rfl (by first | exact Src.row rfl | exact Src.dat _ _ | exact Src.nil) rfl (by omega) ?_)))
    exact ⟨k + 1, by omega, by omega, zm ⟨rfl, rfl, rfl, rfl, rfl, trivial⟩ ⟨zah (by rw [zgR u l x k h0 hag]; simp) (by rw [zgR u l x k h0 hag, List.flatMap_append]; simp [pfxD]) rfl, rfl, kill3 _ _ _ l, trivial⟩⟩
 ·have hk33 : k = 33 := by omega
  subst hk33
  repeat (first | refine q_Y ?_ | ((first | apply q_K rfl | apply q_X rfl); (exact q_H)) | refine q_U ?_)
  refine zo (zF (id := 5) rfl) rfl (h2 := [(1000, tblB 1001 u), (1001, rmapB l)]) ⟨rfl, zic _ _ l, trivial⟩ ⟨rfl, rfl⟩
theorem zew (ρ : List (Nat × Nat)) (l : List (Pfx × List Rte)) : renB ρ (rmapB l) = rmapB l := by
 show ABlk.map ((l.map fun p => (pfxA p.1, rtesA p.2)).map fun p => (renV ρ p.1, renV ρ p.2)) = _
 rw [List.map_map]
 rfl
theorem zk7 (ρ : List (Nat × Nat)) (l : List (Pfx × List Rte)) : okB ρ (rmapB l) := by
 intro p hp
 obtain ⟨q, _, rfl⟩ := List.mem_map.1 hp
 exact ⟨rfl, rfl⟩
theorem zk6 (i j : Nat) (u : Nat → Int) : okB [(1000, i), (1001, j)] (tblB 1001 u) := by
 intro c hc
 rcases List.mem_cons.1 hc with rfl | hc
 ·rfl
 ·obtain ⟨b, _, rfl⟩ := List.mem_map.1 hc
  rfl
theorem zev (i j : Nat) (u : Nat → Int) : renB [(1000, i), (1001, j)] (tblB 1001 u) = tblB j u := by
 show ABlk.var (renV _ (.mp 1001) :: (usedA u).map (renV _)) = _
 unfold tblB usedA
 rw [List.map_map]
 rfl
section
variable {P : Program} {nt : Nat} {Q : Post} {e : Env} {h : Heap} {o : Oper} {ops : Array Oper} {rest : List Oper}
theorem zbb {p k i j : Nat} (h : look [(1000, i), (1001, j)] p = some k) : (p = 1000 ∧ k = i) ∨ (p = 1001 ∧ k = j) := by
 by_cases h1 : 1000 = p
 ·subst h1; rw [ze] at h; cases h; exact .inl ⟨rfl, rfl⟩
 ·rw [zc _ _ h1] at h
  by_cases h2 : 1001 = p
  ·subst h2; rw [ze] at h; cases h; exact .inr ⟨rfl, rfl⟩
  ·rw [zc _ _ h2] at h; cases h
theorem zgv {f : FuncId} {args : Array Operand} {ats : Array TypeId} {cs0 cs : List AVal} {c : AVal} {d : Nat} (i j : Nat) (hij : i ≠ j) {u u' : Nat → Int} {l l' : List (Pfx × List Rte)}
  (H : ACall P f cs [(1000, tblB 1001 u), (1001, rmapB l)] (fun c' h' => c' = c ∧ h' = [(1000, tblB 1001 u'), (1001, rmapB l')])) (hw : awant ops e o = some true) (hdst : o.dst = some d) (hd : Nat.blt d nt = true) (ho : o.op = .call { callee := .value (.func f), args := args, argTypes := ats }) (hx : aevs e args.toList = some cs0)
  (hok : cs.all (okV [(1000, i), (1001, j)]) = true) (hcs : cs.map (renV [(1000, i), (1001, j)]) = cs0) (hi : look h i = some (tblB j u)) (hj : look h j = some (rmapB l))
  (HK : AOps P nt ops Q rest ((d, renV [(1000, i), (1001, j)] c) :: e) ((i, tblB j u') :: (j, rmapB l') :: h)) : AOps P nt ops Q (o :: rest) e h := by
 refine O_cP [(1000, i), (1001, j)] (fun p p' k h1 h2 => ?_) (fun p k h1 => ?_) H (fun c hc => List.all_eq_true.1 hok c hc) ⟨⟨i, _, rfl, hi, zev i j u, zk6 i j u⟩, ⟨j, _, rfl, hj, zew _ l, zk7 _ l⟩, trivial⟩ hw hdst hd ho hx hcs ?_
 ·rcases zbb h1 with ⟨h3, h4⟩ | ⟨h3, h4⟩ <;> rcases zbb h2 with ⟨h5, h6⟩ | ⟨h5, h6⟩ <;> omega
 ·rcases zbb h1 with ⟨h3, h4⟩ | ⟨h3, h4⟩ <;> subst h3 <;> exact ⟨by omega, rfl, rfl⟩
 ·have e1 : renH [(1000, i), (1001, j)] [(1000, tblB 1001 u'), (1001, rmapB l')] ++ h = (i, tblB j u') :: (j, rmapB l') :: h := by
   show (i, renB _ (tblB 1001 u')) :: (j, renB _ (rmapB l')) :: ([] ++ h) = _
   rw [zev, zew]
   rfl
  rw [e1]
  exact HK
end
theorem zjz (u : Nat → Int) (l : List (Pfx × List Rte)) (x : Int) (k : Nat) (q : Pfx) (h : q ∈ overS u l x k) : ∃ z, aget l q = some z := by
 unfold overS at h
 obtain ⟨b, hb, rfl⟩ := List.mem_map.1 h
 have := (List.mem_filter.1 hb).2
 simp only [Bool.and_eq_true] at this
 exact Option.isSome_iff_exists.1 this.2
def longR (u : Nat → Int) (l : List (Pfx × List Rte)) (x : Int) : Pfx × List Rte × Bool := match (overS u l x 33).getLast? with
 | some p => (p, (aget l p).getD [], true)
 | none => (⟨0, 0⟩, [], false)
set_option maxHeartbeats 4000000 in
theorem zjI (u : Nat → Int) (l : List (Pfx × List Rte)) (x : Int) (x0 : 0 ≤ x) (x1 : x < 4294967296) (hn : (l.map (·.1)).Nodup) :
  ACall Tryz.prog 29 [.ptr 1000 0, .d (.sc (.int .u32 x))] [(1000, tblB 1001 u), (1001, rmapB l)] (fun c h => c = .tup [pfxA (longR u l x).1, rtesA (longR u l x).2.1, boolA (longR u l x).2.2] ∧ h = [(1000, tblB 1001 u), (1001, rmapB l)]) := by
 refine zf za Tryz.func29 rfl Tryz.ntmps29 (congrArg Array.toList Tryz.results29) (by kernel_rfl) rfl ?_
 refine z7 ?_
 refine zab ?_
 refine q_a ?_
 refine zB (zm (e1 := [(0, .ptr 1000 0), (1, .d (.sc (.int .u32 x))), (4, .ptr 4 0)]) (h1 := [(4, .var [.d (.sc (.int .u32 0)), .d (.sc (.int .i64 0))]), (1000, tblB 1001 u), (1001, rmapB l)]) ⟨rfl, rfl, rfl, trivial⟩ ⟨rfl, rfl, zal 4 l, trivial⟩) ?_
 obtain ⟨L, hL⟩ : ∃ L, overS u l x 33 = L := ⟨_, rfl⟩
 have hov := zoL u l x x0 x1 hn
 rw [hL] at hov
 have hLn : L.length ≤ 33 := by rw [← hL]; exact zfw u l x 33
 unfold longR
 rw [hL]
 by_cases h0 : L.length = 0
 ·have : L = [] := List.length_eq_zero_iff.1 h0
  subst this
  repeat (first | refine q_Y ?_ | ((first | apply q_K rfl | apply q_X rfl); (exact q_H)) | refine q_U ?_ | (refine zgv 1000 1001 (by omega) hov rfl rfl rfl rfl rfl rfl rfl rfl rfl ?_))
  exact zo (zfd (t := 5) rfl zdj) rfl (h2 := [(1000, tblB 1001 u), (1001, rmapB l)]) ⟨rfl, rfl, trivial⟩ ⟨rfl, rfl⟩
 ·have hlt : L.length - 1 < L.length := by omega
  repeat (first | refine q_Y ?_ | ((first | apply q_K rfl | apply q_X rfl); (first | exact q_A | exact q_R (w := (by first | exact zn zeP L (L.length - 1) _ hlt (by decide) | exact zx zeP L (L.length - 1) _ _ hlt (by decide) | exact zaj zeP L (L.length - 1) _ _ _ hlt (by decide) | rfl)) | exact q_B | (exact zbF (j := L.length - 1) za rfl rfl rfl rfl rfl (by omega) hlt))) | refine q_U ?_ | (refine zgv 1000 1001 (by omega) hov rfl rfl rfl rfl rfl rfl rfl rfl rfl ?_))
  obtain ⟨q, hq⟩ : ∃ q, L[L.length - 1] = q := ⟨_, rfl⟩
  have hlast : L.getLast? = some q := by rw [List.getLast?_eq_getElem?, List.getElem?_eq_getElem hlt, hq]
  obtain ⟨z, hz⟩ : ∃ z, aget l q = some z := by
   refine zjz u l x 33 q ?_
   rw [hL]
   exact List.mem_of_getElem? (by rw [← hq]; exact List.getElem?_eq_getElem hlt)
  rw [hq]
  refine zt (q_S (e1 := [(0, .ptr 1000 0), (4, .ptr 4 0)]) (h1 := [(4, .var [.d (.sc (.int .u32 q.a)), .d (.sc (.int .i64 q.b))]), (1000, tblB 1001 u), (1001, rmapB l)])) ?_
  refine zA [4] mixed ?_
  repeat (first | ((first | apply q_M 0 rfl rfl (by kernel_rfl) (by decide +kernel) (by decide +kernel) rfl rfl rfl | apply q_M 1 rfl rfl (by kernel_rfl) (by decide +kernel) (by decide +kernel) rfl rfl rfl | apply q_M 2 rfl rfl (by kernel_rfl) (by decide +kernel) (by decide +kernel) rfl rfl rfl | apply q_M 3 rfl rfl (by kernel_rfl) (by decide +kernel) (by decide +kernel) rfl rfl rfl | apply q_M 4 rfl rfl (by kernel_rfl) (by decide +kernel) (by decide +kernel) rfl rfl rfl | apply q_M 5 rfl rfl (by kernel_rfl) (by decide +kernel) (by decide +kernel) rfl rfl rfl | apply q_M 6 rfl rfl (by kernel_rfl) (by decide +kernel) (by decide +kernel) rfl rfl rfl | apply q_M 7 rfl rfl (by kernel_rfl) (by decide +kernel) (by decide +kernel) rfl rfl rfl | apply q_M 8 rfl rfl (by kernel_rfl) (by decide +kernel) (by decide +kernel) rfl rfl rfl | apply q_M 9 rfl rfl (by kernel_rfl) (by decide +kernel) (by decide +kernel) rfl rfl rfl ); (first | exact q_H | exact zae rfl rfl rfl)) | (apply q_L 0 rfl rfl (by kernel_rfl) (by decide +kernel) (by decide +kernel) rfl rfl rfl; (first | exact q_5 | exact q_7 | exact q_19 | exact zaw pfxKey zq zeroRts trivial (fun _ _ => trivial) hn hz za rfl rfl rfl rfl rfl rfl)) | (apply q_L 1 rfl rfl (by kernel_rfl) (by decide +kernel) (by decide +kernel) rfl rfl rfl; (first | exact q_5 | exact q_7 | exact q_19 | exact zaw pfxKey zq zeroRts trivial (fun _ _ => trivial) hn hz za rfl rfl rfl rfl rfl rfl)) | (apply q_L 2 rfl rfl (by kernel_rfl) (by decide +kernel) (by decide +kernel) rfl rfl rfl; (first | exact q_5 | exact q_7 | exact q_19 | exact zaw pfxKey zq zeroRts trivial (fun _ _ => trivial) hn hz za rfl rfl rfl rfl rfl rfl)) | (apply q_L 3 rfl rfl (by kernel_rfl) (by decide +kernel) (by decide +kernel) rfl rfl rfl; (first | exact q_5 | exact q_7 | exact q_19 | exact zaw pfxKey zq zeroRts trivial (fun _ _ => trivial) hn hz za rfl rfl rfl rfl rfl rfl)) | (apply q_L 4 rfl rfl (by kernel_rfl) (by decide +kernel) (by decide +kernel) rfl rfl rfl; (first | exact q_5 | exact q_7 | exact q_19 | exact zaw pfxKey zq zeroRts trivial (fun _ _ => trivial) hn hz za rfl rfl rfl rfl rfl rfl)) | (apply q_L 5 rfl rfl (by kernel_rfl) (by decide +kernel) (by decide +kernel) rfl rfl rfl; (first | exact q_5 | exact q_7 | exact q_19 | exact zaw pfxKey zq zeroRts trivial (fun _ _ => trivial) hn hz za rfl rfl rfl rfl rfl rfl)) | (apply q_L 6 rfl rfl (by kernel_rfl) (by decide +kernel) (by decide +kernel) rfl rfl rfl; (first | exact q_5 | exact q_7 | exact q_19 | exact zaw pfxKey zq zeroRts trivial (fun _ _ => trivial) hn hz za rfl rfl rfl rfl rfl rfl)) | refine zd (j := 0) (by decide +kernel) ?_ | refine zd (j := 1) (by decide +kernel) ?_ | refine zd (j := 2) (by decide +kernel) ?_ | refine zd (j := 3) (by decide +kernel) ?_ | refine zd (j := 4) (by decide +kernel) ?_ | refine zd (j := 5) (by decide +kernel) ?_ | refine zd (j := 6) (by decide +kernel) ?_ | refine zd (j := 7) (by decide +kernel) ?_ | refine zd (j := 8) (by decide +kernel) ?_ | refine zd (j := 9) (by decide +kernel) ?_ | refine zW za rfl rfl rfl rfl rfl rfl rfl ?_ | refine zJ za rfl rfl rfl rfl rfl rfl rfl rfl rfl rfl rfl rfl rfl ?_ | (apply zP rfl rfl rfl rfl; (first | exact q_2 | exact q_1 | first | exact q_5 | exact q_7 | exact q_19 | exact zaw pfxKey zq zeroRts trivial (fun _ _ => trivial) hn hz za rfl rfl rfl rfl rfl rfl)) | refine zz (by decide +kernel) ?_)
  refine zcf (j := 0) (k := 5) (by decide +kernel) ?_ ?_
  ·
   repeat (first | ((first | apply q_M 0 rfl rfl (by kernel_rfl) (by decide +kernel) (by decide +kernel) rfl rfl rfl | apply q_M 1 rfl rfl (by kernel_rfl) (by decide +kernel) (by decide +kernel) rfl rfl rfl | apply q_M 2 rfl rfl (by kernel_rfl) (by decide +kernel) (by decide +kernel) rfl rfl rfl | apply q_M 3 rfl rfl (by kernel_rfl) (by decide +kernel) (by decide +kernel) rfl rfl rfl | apply q_M 4 rfl rfl (by kernel_rfl) (by decide +kernel) (by decide +kernel) rfl rfl rfl | apply q_M 5 rfl rfl (by kernel_rfl) (by decide +kernel) (by decide +kernel) rfl rfl rfl | apply q_M 6 rfl rfl (by kernel_rfl) (by decide +kernel) (by decide +kernel) rfl rfl rfl | apply q_M 7 rfl rfl (by kernel_rfl) (by decide +kernel) (by decide +kernel) rfl rfl rfl | apply q_M 8 rfl rfl (by kernel_rfl) (by decide +kernel) (by decide +kernel) rfl rfl rfl | apply q_M 9 rfl rfl (by kernel_rfl) (by decide +kernel) (by decide +kernel) rfl rfl rfl ); (first | exact q_H | exact zae rfl rfl rfl)) | (apply q_L 0 rfl rfl (by kernel_rfl) (by decide +kernel) (by decide +kernel) rfl rfl rfl; (first | exact q_5 | exact q_7 | exact q_19 | exact zaw pfxKey zq zeroRts trivial (fun _ _ => trivial) hn hz za rfl rfl rfl rfl rfl rfl)) | (apply q_L 1 rfl rfl (by kernel_rfl) (by decide +kernel) (by decide +kernel) rfl rfl rfl; (first | exact q_5 | exact q_7 | exact q_19 | exact zaw pfxKey zq zeroRts trivial (fun _ _ => trivial) hn hz za rfl rfl rfl rfl rfl rfl)) | (apply q_L 2 rfl rfl (by kernel_rfl) (by decide +kernel) (by decide +kernel) rfl rfl rfl; (first | exact q_5 | exact q_7 | exact q_19 | exact zaw pfxKey zq zeroRts trivial (fun _ _ => trivial) hn hz za rfl rfl rfl rfl rfl rfl)) | (apply q_L 3 rfl rfl (by kernel_rfl) (by decide +kernel) (by decide +kernel) rfl rfl rfl; (first | exact q_5 | exact q_7 | exact q_19 | exact zaw pfxKey zq zeroRts trivial (fun _ _ => trivial) hn hz za rfl rfl rfl rfl rfl rfl)) | (apply q_L 4 rfl rfl (by kernel_rfl) (by decide +kernel) (by decide +kernel) rfl rfl rfl; (first | exact q_5 | exact q_7 | exact q_19 | exact zaw pfxKey zq zeroRts trivial (fun _ _ => trivial) hn hz za rfl rfl rfl rfl rfl rfl)) | (apply q_L 5 rfl rfl (by kernel_rfl) (by decide +kernel) (by decide +kernel) rfl rfl rfl; (first | exact q_5 | exact q_7 | exact q_19 | exact zaw pfxKey zq zeroRts trivial (fun _ _ => trivial) hn hz za rfl rfl rfl rfl rfl rfl)) | (apply q_L 6 rfl rfl (by kernel_rfl) (by decide +kernel) (by decide +kernel) rfl rfl rfl; (first | exact q_5 | exact q_7 | exact q_19 | exact zaw pfxKey zq zeroRts trivial (fun _ _ => trivial) hn hz za rfl rfl rfl rfl rfl rfl)) | refine zd (j := 0) (by decide +kernel) ?_ | refine zd (j := 1) (by decide +kernel) ?_ | refine zd (j := 2) (by decide +kernel) ?_ | refine zd (j := 3) (by decide +kernel) ?_ | refine zd (j := 4) (by decide +kernel) ?_ | refine zd (j := 5) (by decide +kernel) ?_ | refine zd (j := 6) (by decide +kernel) ?_ | refine zd (j := 7) (by decide +kernel) ?_ | refine zd (j := 8) (by decide +kernel) ?_ | refine zd (j := 9) (by decide +kernel) ?_ | refine zW za rfl rfl rfl rfl rfl rfl rfl ?_ | refine zJ za rfl rfl rfl rfl rfl rfl rfl rfl rfl rfl rfl rfl rfl ?_ | (apply zP rfl rfl rfl rfl; (first | exact q_2 | exact q_1 | first | exact q_5 | exact q_7 | exact q_19 | exact zaw pfxKey zq zeroRts trivial (fun _ _ => trivial) hn hz za rfl rfl rfl rfl rfl rfl)) | refine zz (by decide +kernel) ?_)
   repeat (first | refine q_Y ?_ | ((first | apply q_K rfl | apply q_X rfl); (exact q_H)) | refine q_U ?_)
   refine zo AWk.refl rfl (h2 := [(1000, tblB 1001 u), (1001, rmapB l)]) ⟨rfl, rfl, trivial⟩ ⟨?_, rfl⟩
   rw [hlast]
   simp only [hz, Option.getD_some]
   rfl
  ·
   repeat (first | ((first | apply q_M 0 rfl rfl (by kernel_rfl) (by decide +kernel) (by decide +kernel) rfl rfl rfl | apply q_M 1 rfl rfl (by kernel_rfl) (by decide +kernel) (by decide +kernel) rfl rfl rfl | apply q_M 2 rfl rfl (by kernel_rfl) (by decide +kernel) (by decide +kernel) rfl rfl rfl | apply q_M 3 rfl rfl (by kernel_rfl) (by decide +kernel) (by decide +kernel) rfl rfl rfl | apply q_M 4 rfl rfl (by kernel_rfl) (by decide +kernel) (by decide +kernel) rfl rfl rfl | apply q_M 5 rfl rfl (by kernel_rfl) (by decide +kernel) (by decide +kernel) rfl rfl rfl | apply q_M 6 rfl rfl (by kernel_rfl) (by decide +kernel) (by decide +kernel) rfl rfl rfl | apply q_M 7 rfl rfl (by kernel_rfl) (by decide +kernel) (by decide +kernel) rfl rfl rfl | apply q_M 8 rfl rfl (by kernel_rfl) (by decide +kernel) (by decide +kernel) rfl rfl rfl | apply q_M 9 rfl rfl (by kernel_rfl) (by decide +kernel) (by decide +kernel) rfl rfl rfl ); (first | exact q_H | exact zae rfl rfl rfl)) | (apply q_L 0 rfl rfl (by kernel_rfl) (by decide +kernel) (by decide +kernel) rfl rfl rfl; (first | exact q_5 | exact q_7 | exact q_19 | exact zaw pfxKey zq zeroRts trivial (fun _ _ => trivial) hn hz za rfl rfl rfl rfl rfl rfl)) | (apply q_L 1 rfl rfl (by kernel_rfl) (by decide +kernel) (by decide +kernel) rfl rfl rfl; (first | exact q_5 | exact q_7 | exact q_19 | exact zaw pfxKey zq zeroRts trivial (fun _ _ => trivial) hn hz za rfl rfl rfl rfl rfl rfl)) | (apply q_L 2 rfl rfl (by kernel_rfl) (by decide +kernel) (by decide +kernel) rfl rfl rfl; (first | exact q_5 | exact q_7 | exact q_19 | exact zaw pfxKey zq zeroRts trivial (fun _ _ => trivial) hn hz za rfl rfl rfl rfl rfl rfl)) | (apply q_L 3 rfl rfl (by kernel_rfl) (by decide +kernel) (by decide +kernel) rfl rfl rfl; (first | exact q_5 | exact q_7 | exact q_19 | exact zaw pfxKey zq zeroRts trivial (fun _ _ => trivial) hn hz za rfl rfl rfl rfl rfl rfl)) | (apply q_L 4 rfl rfl (by kernel_rfl) (by decide +kernel) (by decide +kernel) rfl rfl rfl; (first | exact q_5 | exact q_7 | exact q_19 | exact zaw pfxKey zq zeroRts trivial (fun _ _ => trivial) hn hz za rfl rfl rfl rfl rfl rfl)) | (apply q_L 5 rfl rfl (by kernel_rfl) (by decide +kernel) (by decide +kernel) rfl rfl rfl; (first | exact q_5 | exact q_7 | exact q_19 | exact zaw pfxKey zq zeroRts trivial (fun _ _ => trivial) hn hz za rfl rfl rfl rfl rfl rfl)) | (apply q_L 6 rfl rfl (by kernel_rfl) (by decide +kernel) (by decide +kernel) rfl rfl rfl; (first | exact q_5 | exact q_7 | exact q_19 | exact zaw pfxKey zq zeroRts trivial (fun _ _ => trivial) hn hz za rfl rfl rfl rfl rfl rfl)) | refine zd (j := 0) (by decide +kernel) ?_ | refine zd (j := 1) (by decide +kernel) ?_ | refine zd (j := 2) (by decide +kernel) ?_ | refine zd (j := 3) (by decide +kernel) ?_ | refine zd (j := 4) (by decide +kernel) ?_ | refine zd (j := 5) (by decide +kernel) ?_ | refine zd (j := 6) (by decide +kernel) ?_ | refine zd (j := 7) (by decide +kernel) ?_ | refine zd (j := 8) (by decide +kernel) ?_ | refine zd (j := 9) (by decide +kernel) ?_ | refine zW za rfl rfl rfl rfl rfl rfl rfl ?_ | refine zJ za rfl rfl rfl rfl rfl rfl rfl rfl rfl rfl rfl rfl rfl ?_ | (apply zP rfl rfl rfl rfl; (first | exact q_2 | exact q_1 | first | exact q_5 | exact q_7 | exact q_19 | exact zaw pfxKey zq zeroRts trivial (fun _ _ => trivial) hn hz za rfl rfl rfl rfl rfl rfl)) | refine zz (by decide +kernel) ?_)
   repeat (first | refine q_Y ?_ | ((first | apply q_K rfl | apply q_X rfl); (exact q_H)) | refine q_U ?_)
   refine zo AWk.refl rfl (h2 := [(1000, tblB 1001 u), (1001, rmapB l)]) ⟨rfl, rfl, trivial⟩ ⟨?_, rfl⟩
   rw [hlast]
   simp only [hz, Option.getD_some]
   rfl
set_option maxHeartbeats 2000000 in
theorem zmx (u : Nat → Int) (m : List (Pfx × List Rte)) (p : Pfx) (hn : (m.map (·.1)).Nodup) :
  ACall Tryz.prog 26 [.ptr 1000 0, pfxA p] [(1000, tblB 1001 u), (1001, rmapB m)] (fun c h => c = .tup [(match aget m p with | some v => rtesA v | none => .d (.sc (.slice none 0 0))), boolA (aget m p).isSome] ∧ h = [(1000, tblB 1001 u), (1001, rmapB m)]) := by
 refine zf za Tryz.func26 rfl Tryz.ntmps26 (congrArg Array.toList Tryz.results26) (by kernel_rfl) rfl ?_
 cases hag : aget m p with
 | none =>
  repeat (first | refine q_Y ?_ | ((first | apply q_K rfl | apply q_X rfl); (first | exact q_H | (first | exact zd7 za rfl rfl rfl rfl rfl | exact zae rfl rfl rfl | exact zgs (k := p) pfxKey zq zeroRts rfl trivial (fun _ _ => trivial) hn hag za rfl rfl rfl (zal 3 m) rfl rfl))) | refine q_U ?_)
  exact zo AWk.refl rfl (h2 := [(1000, tblB 1001 u), (1001, rmapB m)]) ⟨rfl, zal 3 m, trivial⟩ ⟨rfl, rfl⟩
 | some x =>
  repeat (first | refine q_Y ?_ | ((first | apply q_K rfl | apply q_X rfl); (first | exact q_H | (first | exact zd7 za rfl rfl rfl rfl rfl | exact zae rfl rfl rfl | exact zd8 (k := p) pfxKey zq zeroRts trivial (fun _ _ => trivial) hn hag za rfl rfl rfl (zal 3 m) rfl rfl))) | refine q_U ?_)
  exact zo AWk.refl rfl (h2 := [(1000, tblB 1001 u), (1001, rmapB m)]) ⟨rfl, zal 3 m, trivial⟩ ⟨rfl, rfl⟩
end Go.Proofs.YtmmdkjanmegjdaaGreat.Ab

/-
 Texts of a proof, one behind the other (part 34).
-/
import Derived.Test.YtmmdkjanmegjdaaGreatRv4
import Derived.Test.YtmmdkjanmegjdaaGreatRv28
import Derived.Test.YtmmdkjanmegjdaaGreatRv32
set_option linter.unusedSimpArgs false
set_option linter.unusedVariables false
namespace Go.Proofs.YtmmdkjanmegjdaaGreat.Ab
set_option maxRecDepth 100000
open Go.RowKit Go.Lib
attribute [local irreducible] AWp AOps AQ AYield AEff ACall AWk AAny AAt AThen AIn APost NoPanic
theorem look_one' {a b p i : Nat} (h : look [(a, b)] p = some i) : p = a ∧ i = b := by
 by_cases h1 : a = p
 ·subst h1; rw [ze] at h; cases h; exact ⟨rfl, rfl⟩
 ·rw [zc _ _ h1] at h; cases h
theorem zhQ (l : List Rte) (hl : l.length ≤ 2147483648) : ACall Tryz.prog 18 [rtesA l] [] (fun c h => c = .row 5 ∧ h = [(5, rteB (sortU ordR l))]) := by
 have h1 := znu l hl
 have h2 := zmE l hl
 have h3 := zjV (srt ordR l) (by rw [zbC]; exact hl)
 refine zf za Tryz.func18 rfl Tryz.ntmps18 (congrArg Array.toList Tryz.results18) (by kernel_rfl) rfl ?_
 repeat (first | refine q_Y ?_ | ((first | apply q_K rfl | apply q_X rfl); (exact q_H)) | refine q_U ?_)
 refine zbh rfl rfl rfl rfl rfl h1 rfl ?_
 repeat (first | refine q_Y ?_ | ((first | apply q_K rfl | apply q_X rfl); (exact q_H)) | refine q_U ?_)
 refine O_cP [(1000, 5)] (fun p p' i h1 h2 => by rw [(look_one' h1).1, (look_one' h2).1]) (fun p i h1 => by rw [(look_one' h1).1]; exact ⟨Nat.le_refl _, rfl, rfl⟩) h2 (fun c hc => by simp at hc; rcases hc with rfl | rfl <;> rfl) ⟨⟨5, _, rfl, rfl, rfl, trivial⟩, trivial⟩ rfl rfl rfl rfl rfl rfl ?_
 repeat (first | refine q_Y ?_ | ((first | apply q_K rfl | apply q_X rfl); (exact q_H)) | refine q_U ?_)
 refine O_cM rfl rfl rfl rfl rfl h3 rfl (fun c hc => by simp at hc; subst hc; rfl) rfl rfl ?_
 repeat (first | refine q_Y ?_ | ((first | apply q_K rfl | apply q_X rfl); (exact q_H)) | refine q_U ?_)
 exact zo AWk.refl rfl (h2 := [(5, rteB (sortU ordR l))]) ⟨rfl, trivial⟩ ⟨rfl, rfl⟩
theorem zlH (r : Rte) : ACall Tryz.prog 50 [rteA r] [] (Just (intA r.d)) := by
 refine zf za Tryz.func50 rfl Tryz.ntmps50 (congrArg Array.toList Tryz.results50) (by kernel_rfl) rfl ?_
 repeat (first | refine q_Y ?_ | ((first | apply q_K rfl | apply q_X rfl); (exact q_H)) | refine q_U ?_)
 exact zk rfl ⟨rfl, rfl⟩
theorem zlv (r : Rte) (h : 0 ≤ r.f ∧ r.f < 256) : ACall Tryz.prog 51 [rteA r] [] (Just (intA r.f)) := by
 refine zf za Tryz.func51 rfl Tryz.ntmps51 (congrArg Array.toList Tryz.results51) (by kernel_rfl) rfl ?_
 repeat (first | refine q_Y ?_ | ((first | apply q_K rfl | apply q_X rfl); (first | exact q_H | (exact zcK za rfl rfl rfl rfl rfl (zaL ⟨by omega, by omega⟩)))) | refine q_U ?_)
 exact zk rfl ⟨rfl, rfl⟩
theorem zgY (r : Rte) : ACall Tryz.prog 52 [rteA r] [] (Just (intA r.m)) := by
 refine zf za Tryz.func52 rfl Tryz.ntmps52 (congrArg Array.toList Tryz.results52) (by kernel_rfl) rfl ?_
 repeat (first | refine q_Y ?_ | ((first | apply q_K rfl | apply q_X rfl); (exact q_H)) | refine q_U ?_)
 exact zk rfl ⟨rfl, rfl⟩
def rteB1 (r : Rte) : ABlk := .var ((rteD r).map AVal.d)
def askB : ABlk := .row 112 1 3 [.sc (.func (.func 50) #[] #[]), .sc (.func (.func 51) #[] #[]), .sc (.func (.func 52) #[] #[])]
theorem qqbh0 {T : List Nat} {e : Env} {h : Heap} {o : Oper} {c : AVal} (hy : AYield Tryz.prog T e h o c := by first | exact q_5 | exact q_6 | exact q_7 | exact q_15 | exact q_16 | exact q_19) : AYield Tryz.prog T e h o c := hy
set_option maxHeartbeats 4000000 in
theorem zen (x y : Rte) (hx : 0 ≤ x.f ∧ x.f < 256) (hy : 0 ≤ y.f ∧ y.f < 256) : ACall Tryz.prog 24 [rteA x, rteA y] [] (Just (intA (rank x y))) := by
 have hr : rank x y = if c2 x.d y.d = 0 then (if c2 x.f y.f = 0 then c2 x.m y.m else c2 x.f y.f) else c2 x.d y.d := rfl
 have a1 := zlH x
 have b1 := zlH y
 have a2 := zlv x hx
 have b2 := zlv y hy
 have a3 := zgY x
 have b3 := zgY y
 have c1 := zaG x.d y.d
 have d1 := zaG x.f y.f
 have e1 := zaG x.m y.m
 refine zf za Tryz.func24 rfl Tryz.ntmps24 (congrArg Array.toList Tryz.results24) (by kernel_rfl) rfl ?_
 repeat (first | refine q_Y ?_ | ((first | apply q_K rfl | apply q_X rfl); (exact q_H)) | refine q_U ?_)
 refine zw (fun k : Nat => [(2, .ptr 2 0), (3, .ptr 3 0), (10, .row 9), (11, intA 3), (12, intA (k : Int))]) (fun _ => [(2, rteB1 x), (3, rteB1 y), (9, askB)]) (fun k => k ≤ 3 ∧ (0 < k → c2 x.d y.d = 0) ∧ (1 < k → c2 x.f y.f = 0) ∧ (2 < k → c2 x.m y.m = 0)) (fun k => 3 - k) 0 ⟨by omega, by omega, by omega, by omega⟩ (q_S) ?_
 rintro k ⟨hk, h1, h2, h3⟩
 dsimp only
 match k, hk, h1, h2, h3 with
 | 0, _, h1, h2, h3 =>
  repeat (first | refine q_Z ?_ | ((first | apply q_K rfl | apply q_X rfl); (exact q_H)) | refine q_U ?_)
  refine zA [] mixed ?_
  repeat (first | ((first | apply q_M 0 rfl rfl (by kernel_rfl) (by decide +kernel) (by decide +kernel) rfl rfl rfl | apply q_M 1 rfl rfl (by kernel_rfl) (by decide +kernel) (by decide +kernel) rfl rfl rfl | apply q_M 2 rfl rfl (by kernel_rfl) (by decide +kernel) (by decide +kernel) rfl rfl rfl | apply q_M 3 rfl rfl (by kernel_rfl) (by decide +kernel) (by decide +kernel) rfl rfl rfl | apply q_M 4 rfl rfl (by kernel_rfl) (by decide +kernel) (by decide +kernel) rfl rfl rfl | apply q_M 5 rfl rfl (by kernel_rfl) (by decide +kernel) (by decide +kernel) rfl rfl rfl | apply q_M 6 rfl rfl (by kernel_rfl) (by decide +kernel) (by decide +kernel) rfl rfl rfl | apply q_M 7 rfl rfl (by kernel_rfl) (by decide +kernel) (by decide +kernel) rfl rfl rfl | apply q_M 8 rfl rfl (by kernel_rfl) (by decide +kernel) (by decide +kernel) rfl rfl rfl | apply q_M 9 rfl rfl (by kernel_rfl) (by decide +kernel) (by decide +kernel) rfl rfl rfl | apply q_M 10 rfl rfl (by kernel_rfl) (by decide +kernel) (by decide +kernel) rfl rfl rfl | apply q_M 11 rfl rfl (by kernel_rfl) (by decide +kernel) (by decide +kernel) rfl rfl rfl | apply q_M 12 rfl rfl (by kernel_rfl) (by decide +kernel) (by decide +kernel) rfl rfl rfl ); (exact q_H)) | (apply q_L 0 rfl rfl (by kernel_rfl) (by decide +kernel) (by decide +kernel) rfl rfl rfl; (exact qqbh0)) | (apply q_L 1 rfl rfl (by kernel_rfl) (by decide +kernel) (by decide +kernel) rfl rfl rfl; (exact qqbh0)) | (apply q_L 2 rfl rfl (by kernel_rfl) (by decide +kernel) (by decide +kernel) rfl rfl rfl; (exact qqbh0)) | (apply q_L 3 rfl rfl (by kernel_rfl) (by decide +kernel) (by decide +kernel) rfl rfl rfl; (exact qqbh0)) | (apply q_L 4 rfl rfl (by kernel_rfl) (by decide +kernel) (by decide +kernel) rfl rfl rfl; (exact qqbh0)) | (apply q_L 5 rfl rfl (by kernel_rfl) (by decide +kernel) (by decide +kernel) rfl rfl rfl; (exact qqbh0)) | (apply q_L 6 rfl rfl (by kernel_rfl) (by decide +kernel) (by decide +kernel) rfl rfl rfl; (exact qqbh0)) | (apply q_L 7 rfl rfl (by kernel_rfl) (by decide +kernel) (by decide +kernel) rfl rfl rfl; (exact qqbh0)) | (apply q_L 8 rfl rfl (by kernel_rfl) (by decide +kernel) (by decide +kernel) rfl rfl rfl; (exact qqbh0)) | (apply q_L 9 rfl rfl (by kernel_rfl) (by decide +kernel) (by decide +kernel) rfl rfl rfl; (exact qqbh0)) | (apply q_L 10 rfl rfl (by kernel_rfl) (by decide +kernel) (by decide +kernel) rfl rfl rfl; (exact qqbh0)) | (apply q_L 11 rfl rfl (by kernel_rfl) (by decide +kernel) (by decide +kernel) rfl rfl rfl; (exact qqbh0)) | (apply q_L 12 rfl rfl (by kernel_rfl) (by decide +kernel) (by decide +kernel) rfl rfl rfl; (exact qqbh0)) | refine zd (j := 0) (by decide +kernel) ?_ | refine zd (j := 1) (by decide +kernel) ?_ | refine zd (j := 2) (by decide +kernel) ?_ | refine zd (j := 3) (by decide +kernel) ?_ | refine zd (j := 4) (by decide +kernel) ?_ | refine zd (j := 5) (by decide +kernel) ?_ | refine zd (j := 6) (by decide +kernel) ?_ | refine zd (j := 7) (by decide +kernel) ?_ | refine zd (j := 8) (by decide +kernel) ?_ | refine zd (j := 9) (by decide +kernel) ?_ | refine zd (j := 10) (by decide +kernel) ?_ | refine zd (j := 11) (by decide +kernel) ?_ | refine zd (j := 12) (by decide +kernel) ?_ | refine zW za rfl rfl rfl rfl rfl rfl rfl ?_ | refine zJ za rfl rfl rfl rfl rfl rfl rfl rfl rfl rfl rfl rfl rfl ?_ | refine zfP rfl rfl rfl rfl rfl rfl rfl rfl ?_ | (apply zP rfl rfl rfl rfl; (exact q_H)) | refine zz (by decide +kernel) ?_ | (first | refine zfO rfl rfl rfl rfl rfl rfl rfl a1 (fun _ => rfl) ?_ | refine zfO rfl rfl rfl rfl rfl rfl rfl b1 (fun _ => rfl) ?_ | refine zR rfl rfl rfl rfl rfl rfl c1 (fun _ => rfl) ?_))
  by_cases h0 : c2 x.d y.d = 0
  ·
   repeat (first | refine q_Y ?_ | ((first | apply q_K rfl | apply q_X rfl); (exact q_H)) | refine q_U ?_)
   exact ⟨1, ⟨by omega, fun _ => h0, fun h => by omega, fun h => by omega⟩, by omega, q_S⟩
  ·
   repeat (first | refine q_Y ?_ | ((first | apply q_K rfl | apply q_X rfl); (exact q_H)) | refine q_U ?_)
   exact zk rfl ⟨by rw [hr, if_neg h0], rfl⟩
 | 1, _, h1, h2, h3 =>
  repeat (first | refine q_Z ?_ | ((first | apply q_K rfl | apply q_X rfl); (exact q_H)) | refine q_U ?_)
  refine zA [] mixed ?_
  repeat (first | ((first | apply q_M 0 rfl rfl (by kernel_rfl) (by decide +kernel) (by decide +kernel) rfl rfl rfl | apply q_M 1 rfl rfl (by kernel_rfl) (by decide +kernel) (by decide +kernel) rfl rfl rfl | apply q_M 2 rfl rfl (by kernel_rfl) (by decide +kernel) (by decide +kernel) rfl rfl rfl | apply q_M 3 rfl rfl (by kernel_rfl) (by decide +kernel) (by decide +kernel) rfl rfl rfl | apply q_M 4 rfl rfl (by kernel_rfl) (by decide +kernel) (by decide +kernel) rfl rfl rfl | apply q_M 5 rfl rfl (by kernel_rfl) (by decide +kernel) (by decide +kernel) rfl rfl rfl | apply q_M 6 rfl rfl (by kernel_rfl) (by decide +kernel) (by decide +kernel) rfl rfl rfl | apply q_M 7 rfl rfl (by kernel_rfl) (by decide +kernel) (by decide +kernel) rfl rfl rfl | apply q_M 8 rfl rfl (by kernel_rfl) (by decide +kernel) (by decide +kernel) rfl rfl rfl | apply q_M 9 rfl rfl (by kernel_rfl) (by decide +kernel) (by decide +kernel) rfl rfl rfl | apply q_M 10 rfl rfl (by kernel_rfl) (by decide +kernel) (by decide +kernel) rfl rfl rfl | apply q_M 11 rfl rfl (by kernel_rfl) (by decide +kernel) (by decide +kernel) rfl rfl rfl | apply q_M 12 rfl rfl (by kernel_rfl) (by decide +kernel) (by decide +kernel) rfl rfl rfl ); (exact q_H)) | (apply q_L 0 rfl rfl (by kernel_rfl) (by decide +kernel) (by decide +kernel) rfl rfl rfl; (exact qqbh0)) | (apply q_L 1 rfl rfl (by kernel_rfl) (by decide +kernel) (by decide +kernel) rfl rfl rfl; (exact qqbh0)) | (apply q_L 2 rfl rfl (by kernel_rfl) (by decide +kernel) (by decide +kernel) rfl rfl rfl; (exact qqbh0)) | (apply q_L 3 rfl rfl (by kernel_rfl) (by decide +kernel) (by decide +kernel) rfl rfl rfl; (exact qqbh0)) | (apply q_L 4 rfl rfl (by kernel_rfl) (by decide +kernel) (by decide +kernel) rfl rfl rfl; (exact qqbh0)) | (apply q_L 5 rfl rfl (by kernel_rfl) (by decide +kernel) (by decide +kernel) rfl rfl rfl; (exact qqbh0)) | (apply q_L 6 rfl rfl (by kernel_rfl) (by decide +kernel) (by decide +kernel) rfl rfl rfl; (exact qqbh0)) | (apply q_L 7 rfl rfl (by kernel_rfl) (by decide +kernel) (by decide +kernel) rfl rfl rfl; (exact qqbh0)) | (apply q_L 8 rfl rfl (by kernel_rfl) (by decide +kernel) (by decide +kernel) rfl rfl rfl; (exact qqbh0)) | (apply q_L 9 rfl rfl (by kernel_rfl) (by decide +kernel) (by decide +kernel) rfl rfl rfl; (exact qqbh0)) | (apply q_L 10 rfl rfl (by kernel_rfl) (by decide +kernel) (by decide +kernel) rfl rfl rfl; (exact qqbh0)) | (apply q_L 11 rfl rfl (by kernel_rfl) (by decide +kernel) (by decide +kernel) rfl rfl rfl; (exact qqbh0)) | (apply q_L 12 rfl rfl (by kernel_rfl) (by decide +kernel) (by decide +kernel) rfl rfl rfl; (exact qqbh0)) | refine zd (j := 0) (by decide +kernel) ?_ | refine zd (j := 1) (by decide +kernel) ?_ | refine zd (j := 2) (by decide +kernel) ?_ | refine zd (j := 3) (by decide +kernel) ?_ | refine zd (j := 4) (by decide +kernel) ?_ | refine zd (j := 5) (by decide +kernel) ?_ | refine zd (j := 6) (by decide +kernel) ?_ | refine zd (j := 7) (by decide +kernel) ?_ | refine zd (j := 8) (by decide +kernel) ?_ | refine zd (j := 9) (by decide +kernel) ?_ | refine zd (j := 10) (by decide +kernel) ?_ | refine zd (j := 11) (by decide +kernel) ?_ | refine zd (j := 12) (by decide +kernel) ?_ | refine zW za rfl rfl rfl rfl rfl rfl rfl ?_ | refine zJ za rfl rfl rfl rfl rfl rfl rfl rfl rfl rfl rfl rfl rfl ?_ | refine zfP rfl rfl rfl rfl rfl rfl rfl rfl ?_ | (apply zP rfl rfl rfl rfl; (exact q_H)) | refine zz (by decide +kernel) ?_ | (first | refine zfO rfl rfl rfl rfl rfl rfl rfl a2 (fun _ => rfl) ?_ | refine zfO rfl rfl rfl rfl rfl rfl rfl b2 (fun _ => rfl) ?_ | refine zR rfl rfl rfl rfl rfl rfl d1 (fun _ => rfl) ?_))
  by_cases h0 : c2 x.f y.f = 0
  ·
   repeat (first | refine q_Y ?_ | ((first | apply q_K rfl | apply q_X rfl); (exact q_H)) | refine q_U ?_)
   exact ⟨2, ⟨by omega, fun _ => h1 (by omega), fun _ => h0, fun h => by omega⟩, by omega, q_S⟩
  ·
   repeat (first | refine q_Y ?_ | ((first | apply q_K rfl | apply q_X rfl); (exact q_H)) | refine q_U ?_)
   exact zk rfl ⟨by rw [hr, if_pos (h1 (by omega)), if_neg h0], rfl⟩
 | 2, _, h1, h2, h3 =>
  repeat (first | refine q_Z ?_ | ((first | apply q_K rfl | apply q_X rfl); (exact q_H)) | refine q_U ?_)
  refine zA [] mixed ?_
  repeat (first | ((first | apply q_M 0 rfl rfl (by kernel_rfl) (by decide +kernel) (by decide +kernel) rfl rfl rfl | apply q_M 1 rfl rfl (by kernel_rfl) (by decide +kernel) (by decide +kernel) rfl rfl rfl | apply q_M 2 rfl rfl (by kernel_rfl) (by decide +kernel) (by decide +kernel) rfl rfl rfl | apply q_M 3 rfl rfl (by kernel_rfl) (by decide +kernel) (by decide +kernel) rfl rfl rfl | apply q_M 4 rfl rfl (by kernel_rfl) (by decide +kernel) (by decide +kernel) rfl rfl rfl | apply q_M 5 rfl rfl (by kernel_rfl) (by decide +kernel) (by decide +kernel) rfl rfl rfl | apply q_M 6 rfl rfl (by kernel_rfl) (by decide +kernel) (by decide +kernel) rfl rfl rfl | apply q_M 7 rfl rfl (by kernel_rfl) (by decide +kernel) (by decide +kernel) rfl rfl rfl | apply q_M 8 rfl rfl (by kernel_rfl) (by decide +kernel) (by decide +kernel) rfl rfl rfl | apply q_M 9 rfl rfl (by kernel_rfl) (by decide +kernel) (by decide +kernel) rfl rfl rfl | apply q_M 10 rfl rfl (by kernel_rfl) (by decide +kernel) (by decide +kernel) rfl rfl rfl | apply q_M 11 rfl rfl (by kernel_rfl) (by decide +kernel) (by decide +kernel) rfl rfl rfl | apply q_M 12 rfl rfl (by kernel_rfl) (by decide +kernel) (by decide +kernel) rfl rfl rfl ); (exact q_H)) | (apply q_L 0 rfl rfl (by kernel_rfl) (by decide +kernel) (by decide +kernel) rfl rfl rfl; (exact qqbh0)) | (apply q_L 1 rfl rfl (by kernel_rfl) (by decide +kernel) (by decide +kernel) rfl rfl rfl; (exact qqbh0)) | (apply q_L 2 rfl rfl (by kernel_rfl) (by decide +kernel) (by decide +kernel) rfl rfl rfl; (exact qqbh0)) | (apply q_L 3 rfl rfl (by kernel_rfl) (by decide +kernel) (by decide +kernel) rfl rfl rfl; (exact qqbh0)) | (apply q_L 4 rfl rfl (by kernel_rfl) (by decide +kernel) (by decide +kernel) rfl rfl rfl; (exact qqbh0)) | (apply q_L 5 rfl rfl (by kernel_rfl) (by decide +kernel) (by decide +kernel) rfl rfl rfl; (exact qqbh0)) | (apply q_L 6 rfl rfl (by kernel_rfl) (by decide +kernel) (by decide +kernel) rfl rfl rfl; (exact qqbh0)) | (apply q_L 7 rfl rfl (by kernel_rfl) (by decide +kernel) (by decide +kernel) rfl rfl rfl; (exact qqbh0)) | (apply q_L 8 rfl rfl (by kernel_rfl) (by decide +kernel) (by decide +kernel) rfl rfl rfl; (exact qqbh0)) | (apply q_L 9 rfl rfl (by kernel_rfl) (by decide +kernel) (by decide +kernel) rfl rfl rfl; (exact qqbh0)) | (apply q_L 10 rfl rfl (by kernel_rfl) (by decide +kernel) (by decide +kernel) rfl rfl rfl; (exact qqbh0)) | (apply q_L 11 rfl rfl (by kernel_rfl) (by decide +kernel) (by decide +kernel) rfl rfl rfl; (exact qqbh0)) | (apply q_L 12 rfl rfl (by kernel_rfl) (by decide +kernel) (by decide +kernel) rfl rfl rfl; (exact qqbh0)) | refine zd (j := 0) (by decide +kernel) ?_ | refine zd (j := 1) (by decide +kernel) ?_ | refine zd (j := 2) (by decide +kernel) ?_ | refine zd (j := 3) (by decide +kernel) ?_ | refine zd (j := 4) (by decide +kernel) ?_ | refine zd (j := 5) (by decide +kernel) ?_ | refine zd (j := 6) (by decide +kernel) ?_ | refine zd (j := 7) (by decide +kernel) ?_ | refine zd (j := 8) (by decide +kernel) ?_ | refine zd (j := 9) (by decide +kernel) ?_ | refine zd (j := 10) (by decide +kernel) ?_ | refine zd (j := 11) (by decide +kernel) ?_ | refine zd (j := 12) (by decide +kernel) ?_ | refine zW za rfl rfl rfl rfl rfl rfl rfl ?_ | refine zJ za rfl rfl rfl rfl rfl rfl rfl rfl rfl rfl rfl rfl rfl ?_ | refine zfP rfl rfl rfl rfl rfl rfl rfl rfl ?_ | (apply zP rfl rfl rfl rfl; (exact q_H)) | refine zz (by decide +kernel) ?_ | (first | refine zfO rfl rfl rfl rfl rfl rfl rfl a3 (fun _ => rfl) ?_ | refine zfO rfl rfl rfl rfl rfl rfl rfl b3 (fun _ => rfl) ?_ | refine zR rfl rfl rfl rfl rfl rfl e1 (fun _ => rfl) ?_))
  by_cases h0 : c2 x.m y.m = 0
  ·
   repeat (first | refine q_Y ?_ | ((first | apply q_K rfl | apply q_X rfl); (exact q_H)) | refine q_U ?_)
   exact ⟨3, ⟨by omega, fun _ => h1 (by omega), fun _ => h2 (by omega), fun _ => h0⟩, by omega, q_S⟩
  ·
   repeat (first | refine q_Y ?_ | ((first | apply q_K rfl | apply q_X rfl); (exact q_H)) | refine q_U ?_)
   exact zk rfl ⟨by rw [hr, if_pos (h1 (by omega)), if_pos (h2 (by omega))], rfl⟩
 | 3, _, h1, h2, h3 =>
  repeat (first | refine q_Y ?_ | ((first | apply q_K rfl | apply q_X rfl); (exact q_H)) | refine q_U ?_)
  exact zk rfl ⟨by rw [hr, if_pos (h1 (by omega)), if_pos (h2 (by omega)), h3 (by omega)]; rfl, rfl⟩
 | k + 4, h, _, _, _ => omega
end Go.Proofs.YtmmdkjanmegjdaaGreat.Ab

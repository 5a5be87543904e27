/-
 Texts of a proof, one behind the other (part 34).
-/
import Derived.Test.YtoahnbmedcjpeaaGreatDoorMn3
import Derived.Test.YtoahnbmedcjpeaaGreatDoorMn30
import Derived.Test.YtoahnbmedcjpeaaGreatDoorMn32
set_option linter.unusedSimpArgs false
set_option linter.unusedVariables false
namespace Go.Proofs.YtoahnbmedcjpeaaGreatDoor.Ab
set_option maxRecDepth 100000
open Go.RowKit Go.Lib
attribute [local irreducible] AWp AOps AQ AYield AEff ACall AWk AAny AAt AThen AIn APost NoPanic
def orI : List Int → Int
 | [] => 0
 | x :: r => if x = 0 then orI r else x
def inD (n : Int) : List Dat := [.sc (.int .i64 n)]
theorem zbI (n : Int) : (inD n).length = 1 := rfl
theorem zgK {l : List Int} {k : Nat} (hk : k < l.length) (h0 : l[k] = 0) : orI (l.drop k) = orI (l.drop (k + 1)) := by
 rw [List.drop_eq_getElem_cons hk, h0]; rfl
theorem zjK {l : List Int} {k : Nat} (hk : k < l.length) (h0 : l[k] ≠ 0) : orI (l.drop k) = l[k] := by
 rw [List.drop_eq_getElem_cons hk]
 show (if l[k] = 0 then _ else _) = _
 rw [if_neg h0]
theorem ziK (l : List Int) (hn : l.length ≤ 1000000) : ACall Tryz.prog 175 [.d (.sl (l.flatMap inD) l.length)] [] (Just (intA (orI l))) := by
 refine zc za Tryz.func175 rfl Tryz.ntmps175 (congrArg Array.toList Tryz.results175) (by kernel_rfl) rfl ?_
 repeat (first | refine q_Y ?_ | ((first | apply q_K rfl | apply q_X rfl); (exact q_H)) | refine q_U ?_)
 refine zw (fun k : Nat => [(2, intA 0), (3, intA 0), (6, .d (.sl (l.flatMap inD) l.length)), (7, intA (l.length : Int)), (8, intA (k : Int))]) (fun _ => []) (fun k => k ≤ l.length ∧ orI l = orI (l.drop k)) (fun k => l.length - k) 0 ⟨by omega, rfl⟩ (q_S) ?_
 rintro k ⟨hk, he⟩
 dsimp only
 by_cases hlt : k < l.length
 ·by_cases h0 : l[k] = 0
  ·
   repeat (first | refine q_Y ?_ | ((first | apply q_K rfl | apply q_X rfl); (first | exact q_A | exact q_R (w := (by first | exact zj zbI l k _ hlt (by decide) | exact zW zbI l k _ _ hlt (by decide) | exact zdm zbI l k _ _ _ hlt (by decide) | rfl)) | exact q_B)) | refine q_U ?_)
   exact ⟨k + 1, ⟨by omega, by rw [he, zgK hlt h0]⟩, by omega, q_S⟩
  ·
   repeat (first | refine q_Y ?_ | ((first | apply q_K rfl | apply q_X rfl); (first | exact q_A | exact q_R (w := (by first | exact zj zbI l k _ hlt (by decide) | exact zW zbI l k _ _ hlt (by decide) | exact zdm zbI l k _ _ _ hlt (by decide) | rfl)) | exact q_B)) | refine q_U ?_)
   exact zo rfl ⟨by rw [he, zjK hlt h0]; rfl, rfl⟩
 ·have : k = l.length := by omega
  subst this
  repeat (first | refine q_Y ?_ | ((first | apply q_K rfl | apply q_X rfl); (exact q_H)) | refine q_U ?_)
  exact zo rfl ⟨by rw [he, List.drop_length]; rfl, rfl⟩
theorem zhk (x y : Int) : ACall Tryz.prog 178 [intA x, intA y] [] (Just (intA (c2 x y))) := zaP (by kernel_rfl) rfl rfl rfl fun w => (zcd x y w).mono fun e w' ⟨h1, h2⟩ => ⟨h1, by subst h2; exact (Grew.refl w).below⟩
theorem zka (x y : Int) : ACall Tryz.prog 177 [.d (uD x), .d (uD y)] [] (Just (intA (c2 x y))) := zaP (by kernel_rfl) rfl rfl rfl fun w => (zce x y w).mono fun e w' ⟨h1, h2⟩ => ⟨h1, by subst h2; exact (Grew.refl w).below⟩
theorem zgc (p q : Pfx) : cmpP p q = lexc (fun p q : Pfx => c2 p.a q.a) (fun p q => c2 p.b q.b) p q := (zfA p q).symm
theorem zif (x y : Sta) : orI [compareBytes x.vrf y.vrf, cmpP x.p y.p, c2 x.via y.via, cB x.x y.x, c2 x.dist y.dist, c2 x.tag y.tag] = staC x y := by
 rw [zgc]
 unfold staC
 simp only [orI, lexc]
 repeat' split
 all_goals first | rfl | omega
set_option maxHeartbeats 16000000 in
theorem zhj (x y : Sta) : ACall Tryz.prog 87 [gA staD x, gA staD y] [] (Just (intA (staC x y))) := by
 have h9 := ziK [compareBytes x.vrf y.vrf, cmpP x.p y.p, c2 x.via y.via, cB x.x y.x, c2 x.dist y.dist, c2 x.tag y.tag] (by simp)
 rw [zif] at h9
 have h1 := zaR x.vrf y.vrf
 have h2 := zkO x.p y.p
 have h3 := zka x.via y.via
 have h4 := zhk x.dist y.dist
 have h5 := zhk x.tag y.tag
 obtain ⟨c0, ec⟩ : ∃ c, staC x y = c := ⟨_, rfl⟩
 rw [ec] at h9 ⊢
 clear ec
 obtain ⟨xv, ⟨xa, xb⟩, xvia, xx, xd, xt⟩ := x
 obtain ⟨yv, ⟨ya, yb⟩, yvia, yx, yd, yt⟩ := y
 dsimp only at h1 h2 h3 h4 h5 h9
 refine zc za Tryz.func87 rfl Tryz.ntmps87 (congrArg Array.toList Tryz.results87) (by kernel_rfl) rfl ?_
 refine zn ?_
 (first | refine ze ?_ | refine zg rfl mixed (by kernel_rfl) ?_)
 repeat' (first | ((first | apply q_K rfl | apply q_X rfl); (first | exact q_H | fail)) | refine q_d ?_ | refine q_a ?_ | refine q_b ?_ | refine q_e ?_ | refine q_f ?_ | refine q_g ?_ | ((fail_if_success (refine O_wt rfl ?_)); refine O_gs rfl rfl (fun _ => ?_) (fun _ => ?_)) | ((fail_if_success (refine Q_wt rfl ?_)); refine Q_gs rfl rfl (fun _ => ?_) (fun _ => ?_)) | refine zi ?_ | refine zk ?_ | refine q_j ?_ | fail)
 refine zn ?_
 (first | refine ze ?_ | refine zg rfl mixed (by kernel_rfl) ?_)
 repeat' (first | ((first | apply q_K rfl | apply q_X rfl); (first | exact q_H | fail)) | refine q_d ?_ | refine q_a ?_ | refine q_b ?_ | refine q_e ?_ | refine q_f ?_ | refine q_g ?_ | ((fail_if_success (refine O_wt rfl ?_)); refine O_gs rfl rfl (fun _ => ?_) (fun _ => ?_)) | ((fail_if_success (refine Q_wt rfl ?_)); refine Q_gs rfl rfl (fun _ => ?_) (fun _ => ?_)) | refine zi ?_ | refine zk ?_ | refine q_j ?_ | fail)
 refine zF [(2, .ptr 2 0), (3, .ptr 3 0), (5, intA (cB xx yx))] [(2, .var ((staD ⟨xv, ⟨xa, xb⟩, xvia, xx, xd, xt⟩).map .d)), (3, .var ((staD ⟨yv, ⟨ya, yb⟩, yvia, yx, yd, yt⟩).map .d))] ?_ ?_
 ·cases xx <;> cases yx
  all_goals
   repeat (first | refine q_Y ?_ | ((first | apply q_K rfl | apply q_X rfl); (first | exact q_H | (exact zhH za rfl rfl rfl rfl rfl))) | refine q_U ?_)
  all_goals exact q_S
 refine zn ?_
 refine zaq [] mixed ?_
 (apply q_P 0 rfl (by kernel_rfl) rfl rfl rfl; (first | exact q_H | fail))
 (apply q_P 1 rfl (by kernel_rfl) rfl rfl rfl; (first | exact q_H | fail))
 (apply q_P 2 rfl (by kernel_rfl) rfl rfl rfl; (first | exact q_H | fail))
 (apply q_P 3 rfl (by kernel_rfl) rfl rfl rfl; (first | exact q_H | fail))
 (apply q_P 5 rfl (by kernel_rfl) rfl rfl rfl; (first | exact q_H | fail))
 (apply q_P 6 rfl (by kernel_rfl) rfl rfl rfl; (first | exact q_H | fail))
 (apply q_P 7 rfl (by kernel_rfl) rfl rfl rfl; (first | exact q_H | fail))
 (apply q_P 8 rfl (by kernel_rfl) rfl rfl rfl; (first | exact q_H | fail))
 (apply q_P 10 rfl (by kernel_rfl) rfl rfl rfl; (first | exact q_H | fail))
 (apply q_P 11 rfl (by kernel_rfl) rfl rfl rfl; (first | exact q_H | fail))
 (apply q_P 12 rfl (by kernel_rfl) rfl rfl rfl; (first | exact q_H | fail))
 (apply q_P 13 rfl (by kernel_rfl) rfl rfl rfl; (first | exact q_H | fail))
 (apply q_P 15 rfl (by kernel_rfl) rfl rfl rfl; (first | exact q_H | fail))
 (apply q_P 16 rfl (by kernel_rfl) rfl rfl rfl; (first | exact q_H | fail))
 (apply q_P 17 rfl (by kernel_rfl) rfl rfl rfl; (first | exact q_H | fail))
 (apply q_P 18 rfl (by kernel_rfl) rfl rfl rfl; (first | exact q_H | fail))
 (apply q_P 19 rfl (by kernel_rfl) rfl rfl rfl; (first | exact q_H | fail))
 (apply q_P 21 rfl (by kernel_rfl) rfl rfl rfl; (first | exact q_H | fail))
 (apply q_P 22 rfl (by kernel_rfl) rfl rfl rfl; (first | exact q_H | fail))
 (apply q_P 23 rfl (by kernel_rfl) rfl rfl rfl; (first | exact q_H | fail))
 (apply q_P 24 rfl (by kernel_rfl) rfl rfl rfl; (first | exact q_H | fail))
 refine zh (j := 4) (by kernel_rfl) ?_
 refine zcv rfl rfl rfl rfl rfl rfl h1 (fun _ => rfl) ?_
 refine zh (j := 9) (by kernel_rfl) ?_
 refine zcv rfl rfl rfl rfl rfl rfl h2 (fun _ => rfl) ?_
 refine zh (j := 14) (by kernel_rfl) ?_
 refine zcv rfl rfl rfl rfl rfl rfl h3 (fun _ => rfl) ?_
 refine zh (j := 20) (by kernel_rfl) ?_
 refine zcv rfl rfl rfl rfl rfl rfl h4 (fun _ => rfl) ?_
 refine zh (j := 25) (by kernel_rfl) ?_
 refine zcv rfl rfl rfl rfl rfl rfl h5 (fun _ => rfl) ?_
 refine zh (j := 26) (by kernel_rfl) ?_
 refine ziW za rfl rfl rfl rfl rfl rfl rfl rfl rfl rfl rfl rfl ?_
 refine zh (j := 27) (by kernel_rfl) ?_
 refine T_cL rfl rfl rfl rfl rfl rfl h9 rfl (fun _ _ _ => zB _ _ _ _ _ rfl rfl) ?_
 (apply q_P 28 rfl (by kernel_rfl) rfl rfl rfl; (first | exact q_H | fail))
 refine zaz (by kernel_rfl) ?_
 repeat (first | refine q_Y ?_ | ((first | apply q_K rfl | apply q_X rfl); (exact q_H)) | refine q_U ?_)
 exact zo rfl ⟨rfl, rfl⟩
end Go.Proofs.YtoahnbmedcjpeaaGreatDoor.Ab

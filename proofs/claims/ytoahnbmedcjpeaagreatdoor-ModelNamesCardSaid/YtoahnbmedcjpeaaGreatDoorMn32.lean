/-
 Texts of a proof, one behind the other (part 33).
-/
import Derived.Test.YtoahnbmedcjpeaaGreatDoorMn1
import Derived.Test.YtoahnbmedcjpeaaGreatDoorMn3
import Derived.Test.YtoahnbmedcjpeaaGreatDoorMn12
import Derived.Test.YtoahnbmedcjpeaaGreatDoorMn13
import Derived.Test.YtoahnbmedcjpeaaGreatDoorMn14
import Derived.Test.YtoahnbmedcjpeaaGreatDoorMn15
import Derived.Test.YtoahnbmedcjpeaaGreatDoorMn16
import Derived.Test.YtoahnbmedcjpeaaGreatDoorMn17
import Derived.Test.YtoahnbmedcjpeaaGreatDoorMn20
import Derived.Test.YtoahnbmedcjpeaaGreatDoorMn29
import Derived.Test.YtoahnbmedcjpeaaGreatDoorMn30
set_option maxRecDepth 100000
set_option linter.unusedSimpArgs false
set_option linter.unusedVariables false
namespace Go.Proofs.YtoahnbmedcjpeaaGreatDoor.Ab
open Go.RowKit Go.Lib
attribute [local irreducible] AWp AOps AQ AYield AEff ACall AWk AAny AAt AThen AIn APost NoPanic
set_option maxHeartbeats 4000000 in
theorem zgh (x y : Fil) : ACall Tryz.prog 167 ([gA filD x, gA filD y] ++ [.iptr [.sc (.func (.func 79) #[] #[])] 0]) [] (Just (intA (compareBytes x.nm y.nm))) := by
 refine zc za Tryz.func167 rfl Tryz.ntmps167 (congrArg Array.toList Tryz.results167) (by kernel_rfl) rfl ?_
 repeat (first | refine q_Y ?_ | ((first | apply q_K rfl | apply q_X rfl); (exact q_H)) | refine q_U ?_ | (refine zaj rfl rfl rfl rfl rfl rfl (zgP _) rfl (fun _ _ _ => zB _ _ _ _ _ rfl rfl) ?_))
 refine Q_c rfl rfl rfl rfl rfl (zaR x.nm y.nm) rfl (fun _ _ _ => zB _ _ _ _ _ rfl rfl) ?_
 repeat (first | refine q_Y ?_ | ((first | apply q_K rfl | apply q_X rfl); (exact q_H)) | refine q_U ?_)
 exact zo rfl ⟨rfl, rfl⟩
set_option maxHeartbeats 4000000 in
theorem zgg (x y : Ifx) : ACall Tryz.prog 165 ([gA ifxD x, gA ifxD y] ++ [.iptr [.sc (.func (.func 77) #[] #[])] 0]) [] (Just (intA (compareBytes x.nm y.nm))) := by
 refine zc za Tryz.func165 rfl Tryz.ntmps165 (congrArg Array.toList Tryz.results165) (by kernel_rfl) rfl ?_
 repeat (first | refine q_Y ?_ | ((first | apply q_K rfl | apply q_X rfl); (exact q_H)) | refine q_U ?_ | (refine zaj rfl rfl rfl rfl rfl rfl (zjf _) rfl (fun _ _ _ => zB _ _ _ _ _ rfl rfl) ?_))
 refine Q_c rfl rfl rfl rfl rfl (zaR x.nm y.nm) rfl (fun _ _ _ => zB _ _ _ _ _ rfl rfl) ?_
 repeat (first | refine q_Y ?_ | ((first | apply q_K rfl | apply q_X rfl); (exact q_H)) | refine q_U ?_)
 exact zo rfl ⟨rfl, rfl⟩
set_option maxHeartbeats 4000000 in
theorem ze4 (x y : PLst) : ACall Tryz.prog 169 ([gA plstD x, gA plstD y] ++ [.iptr [.sc (.func (.func 81) #[] #[])] 0]) [] (Just (intA (compareBytes x.nm y.nm))) := by
 refine zc za Tryz.func169 rfl Tryz.ntmps169 (congrArg Array.toList Tryz.results169) (by kernel_rfl) rfl ?_
 repeat (first | refine q_Y ?_ | ((first | apply q_K rfl | apply q_X rfl); (exact q_H)) | refine q_U ?_ | (refine zaj rfl rfl rfl rfl rfl rfl (zgN _) rfl (fun _ _ _ => zB _ _ _ _ _ rfl rfl) ?_))
 refine Q_c rfl rfl rfl rfl rfl (zaR x.nm y.nm) rfl (fun _ _ _ => zB _ _ _ _ _ rfl rfl) ?_
 repeat (first | refine q_Y ?_ | ((first | apply q_K rfl | apply q_X rfl); (exact q_H)) | refine q_U ?_)
 exact zo rfl ⟨rfl, rfl⟩
set_option maxHeartbeats 4000000 in
theorem ze5 (x y : CLst) : ACall Tryz.prog 171 ([gA clstD x, gA clstD y] ++ [.iptr [.sc (.func (.func 83) #[] #[])] 0]) [] (Just (intA (compareBytes x.nm y.nm))) := by
 refine zc za Tryz.func171 rfl Tryz.ntmps171 (congrArg Array.toList Tryz.results171) (by kernel_rfl) rfl ?_
 repeat (first | refine q_Y ?_ | ((first | apply q_K rfl | apply q_X rfl); (exact q_H)) | refine q_U ?_ | (refine zaj rfl rfl rfl rfl rfl rfl (zgQ _) rfl (fun _ _ _ => zB _ _ _ _ _ rfl rfl) ?_))
 refine Q_c rfl rfl rfl rfl rfl (zaR x.nm y.nm) rfl (fun _ _ _ => zB _ _ _ _ _ rfl rfl) ?_
 repeat (first | refine q_Y ?_ | ((first | apply q_K rfl | apply q_X rfl); (exact q_H)) | refine q_U ?_)
 exact zo rfl ⟨rfl, rfl⟩
set_option maxHeartbeats 4000000 in
theorem zgf (x y : Pol) : ACall Tryz.prog 173 ([gA polD x, gA polD y] ++ [.iptr [.sc (.func (.func 85) #[] #[])] 0]) [] (Just (intA (compareBytes x.nm y.nm))) := by
 refine zc za Tryz.func173 rfl Tryz.ntmps173 (congrArg Array.toList Tryz.results173) (by kernel_rfl) rfl ?_
 repeat (first | refine q_Y ?_ | ((first | apply q_K rfl | apply q_X rfl); (exact q_H)) | refine q_U ?_ | (refine zaj rfl rfl rfl rfl rfl rfl (zgO _) rfl (fun _ _ _ => zB _ _ _ _ _ rfl rfl) ?_))
 refine Q_c rfl rfl rfl rfl rfl (zaR x.nm y.nm) rfl (fun _ _ _ => zB _ _ _ _ _ rfl rfl) ?_
 repeat (first | refine q_Y ?_ | ((first | apply q_K rfl | apply q_X rfl); (exact q_H)) | refine q_U ?_)
 exact zo rfl ⟨rfl, rfl⟩
end Go.Proofs.YtoahnbmedcjpeaaGreatDoor.Ab

namespace Go.Proofs.YtoahnbmedcjpeaaGreatDoor.Ab
open Go.RowKit Go.Lib
attribute [local irreducible] AWp AOps AQ AYield AEff ACall AWk AAny AAt AThen AIn APost NoPanic
theorem qqbg0 {T : List Nat} {e : Env} {h : Heap} {o : Oper} {c : AVal} (hy : AYield Tryz.prog T e h o c := by first | exact q_D | exact zeJ za rfl rfl rfl rfl rfl | exact zdT rfl rfl rfl | exact zfG za rfl rfl rfl rfl rfl | exact q_11 | exact q_12 | exact q_20 | exact q_25 | exact q_26 | exact q_23) : AYield Tryz.prog T e h o c := hy
set_option maxHeartbeats 4000000 in
theorem zhw (l : List Ifx) (hN : l.length ≤ 100000000000) : ACall Tryz.prog 76 [.row 1000, .fn 77 []] [(1000, gR 38 11 ifxD l)] (fun c h => c = .tup [] ∧ h = [(1000, gR 38 11 ifxD (srtN (fun x : Ifx => x.nm) l))]) := by
 have hs := SIfx.sst (enc := ifxD) za4 (fc := 165) (caps := [.iptr [.sc (.func (.func 77) #[] #[])] 0]) ⟨rfl, rfl⟩ (weakN fun x : Ifx => x.nm) (fun x y => rfl) (fun x y => zgg x y) l hN
 refine zc za Tryz.func76 rfl Tryz.ntmps76 (congrArg Array.toList Tryz.results76) (by kernel_rfl) rfl ?_
 refine zf (z8 (t := 1) rfl (zad 77)) ?_
 refine zn ?_
 refine ze ?_
 refine q_d ?_
 refine zi ?_
 refine q_j ?_
 refine zf (zr (id := 3) (ds := [.sc (.func (.func 77) #[] #[])]) rfl rfl) ?_
 repeat ((fail_if_success refine zu ?_); first | refine q_Y ?_ | ((first | apply q_K rfl | apply q_X rfl); (exact qqbg0)) | refine q_T ?_ | ((first | apply q_K rfl | apply q_X rfl); exact zK rfl rfl))
 refine O_cU 1000 hs rfl rfl rfl rfl rfl rfl rfl rfl ?_
 repeat ((fail_if_success refine zu ?_); first | refine q_Y ?_ | ((first | apply q_K rfl | apply q_X rfl); (exact qqbg0)) | refine q_T ?_)
 exact zal AWk.refl rfl (h2 := [(1000, gR 38 11 ifxD (srtN (fun x : Ifx => x.nm) l))]) ⟨rfl, trivial⟩ ⟨rfl, rfl⟩
end Go.Proofs.YtoahnbmedcjpeaaGreatDoor.Ab

namespace Go.Proofs.YtoahnbmedcjpeaaGreatDoor.Ab
open Go.RowKit Go.Lib
attribute [local irreducible] AWp AOps AQ AYield AEff ACall AWk AAny AAt AThen AIn APost NoPanic
set_option maxHeartbeats 4000000 in
theorem zhx (l : List Fil) (hN : l.length ≤ 100000000000) : ACall Tryz.prog 78 [.row 1000, .fn 79 []] [(1000, gR 82 2 filD l)] (fun c h => c = .tup [] ∧ h = [(1000, gR 82 2 filD (srtN (fun x : Fil => x.nm) l))]) := by
 have hs := SFil.sst (enc := filD) zaE (fc := 167) (caps := [.iptr [.sc (.func (.func 79) #[] #[])] 0]) ⟨rfl, rfl⟩ (weakN fun x : Fil => x.nm) (fun x y => rfl) (fun x y => zgh x y) l hN
 refine zc za Tryz.func78 rfl Tryz.ntmps78 (congrArg Array.toList Tryz.results78) (by kernel_rfl) rfl ?_
 refine zf (z8 (t := 1) rfl (zad 79)) ?_
 refine zn ?_
 refine ze ?_
 refine q_d ?_
 refine zi ?_
 refine q_j ?_
 refine zf (zr (id := 3) (ds := [.sc (.func (.func 79) #[] #[])]) rfl rfl) ?_
 repeat ((fail_if_success refine zu ?_); first | refine q_Y ?_ | ((first | apply q_K rfl | apply q_X rfl); (exact qqbg0)) | refine q_T ?_ | ((first | apply q_K rfl | apply q_X rfl); exact zK rfl rfl))
 refine O_cU 1000 hs rfl rfl rfl rfl rfl rfl rfl rfl ?_
 repeat ((fail_if_success refine zu ?_); first | refine q_Y ?_ | ((first | apply q_K rfl | apply q_X rfl); (exact qqbg0)) | refine q_T ?_)
 exact zal AWk.refl rfl (h2 := [(1000, gR 82 2 filD (srtN (fun x : Fil => x.nm) l))]) ⟨rfl, trivial⟩ ⟨rfl, rfl⟩
end Go.Proofs.YtoahnbmedcjpeaaGreatDoor.Ab

namespace Go.Proofs.YtoahnbmedcjpeaaGreatDoor.Ab
open Go.RowKit Go.Lib
attribute [local irreducible] AWp AOps AQ AYield AEff ACall AWk AAny AAt AThen AIn APost NoPanic
set_option maxHeartbeats 4000000 in
theorem zgj (l : List PLst) (hN : l.length ≤ 100000000000) : ACall Tryz.prog 80 [.row 1000, .fn 81 []] [(1000, gR 85 2 plstD l)] (fun c h => c = .tup [] ∧ h = [(1000, gR 85 2 plstD (srtN (fun x : PLst => x.nm) l))]) := by
 have hs := SPLst.sst (enc := plstD) zas (fc := 169) (caps := [.iptr [.sc (.func (.func 81) #[] #[])] 0]) ⟨rfl, rfl⟩ (weakN fun x : PLst => x.nm) (fun x y => rfl) (fun x y => ze4 x y) l hN
 refine zc za Tryz.func80 rfl Tryz.ntmps80 (congrArg Array.toList Tryz.results80) (by kernel_rfl) rfl ?_
 refine zf (z8 (t := 1) rfl (zad 81)) ?_
 refine zn ?_
 refine ze ?_
 refine q_d ?_
 refine zi ?_
 refine q_j ?_
 refine zf (zr (id := 3) (ds := [.sc (.func (.func 81) #[] #[])]) rfl rfl) ?_
 repeat ((fail_if_success refine zu ?_); first | refine q_Y ?_ | ((first | apply q_K rfl | apply q_X rfl); (exact qqbg0)) | refine q_T ?_ | ((first | apply q_K rfl | apply q_X rfl); exact zK rfl rfl))
 refine O_cU 1000 hs rfl rfl rfl rfl rfl rfl rfl rfl ?_
 repeat ((fail_if_success refine zu ?_); first | refine q_Y ?_ | ((first | apply q_K rfl | apply q_X rfl); (exact qqbg0)) | refine q_T ?_)
 exact zal AWk.refl rfl (h2 := [(1000, gR 85 2 plstD (srtN (fun x : PLst => x.nm) l))]) ⟨rfl, trivial⟩ ⟨rfl, rfl⟩
end Go.Proofs.YtoahnbmedcjpeaaGreatDoor.Ab

namespace Go.Proofs.YtoahnbmedcjpeaaGreatDoor.Ab
open Go.RowKit Go.Lib
attribute [local irreducible] AWp AOps AQ AYield AEff ACall AWk AAny AAt AThen AIn APost NoPanic
set_option maxHeartbeats 4000000 in
theorem zgk (l : List CLst) (hN : l.length ≤ 100000000000) : ACall Tryz.prog 82 [.row 1000, .fn 83 []] [(1000, gR 88 2 clstD l)] (fun c h => c = .tup [] ∧ h = [(1000, gR 88 2 clstD (srtN (fun x : CLst => x.nm) l))]) := by
 have hs := SCLst.sst (enc := clstD) zav (fc := 171) (caps := [.iptr [.sc (.func (.func 83) #[] #[])] 0]) ⟨rfl, rfl⟩ (weakN fun x : CLst => x.nm) (fun x y => rfl) (fun x y => ze5 x y) l hN
 refine zc za Tryz.func82 rfl Tryz.ntmps82 (congrArg Array.toList Tryz.results82) (by kernel_rfl) rfl ?_
 refine zf (z8 (t := 1) rfl (zad 83)) ?_
 refine zn ?_
 refine ze ?_
 refine q_d ?_
 refine zi ?_
 refine q_j ?_
 refine zf (zr (id := 3) (ds := [.sc (.func (.func 83) #[] #[])]) rfl rfl) ?_
 repeat ((fail_if_success refine zu ?_); first | refine q_Y ?_ | ((first | apply q_K rfl | apply q_X rfl); (exact qqbg0)) | refine q_T ?_ | ((first | apply q_K rfl | apply q_X rfl); exact zK rfl rfl))
 refine O_cU 1000 hs rfl rfl rfl rfl rfl rfl rfl rfl ?_
 repeat ((fail_if_success refine zu ?_); first | refine q_Y ?_ | ((first | apply q_K rfl | apply q_X rfl); (exact qqbg0)) | refine q_T ?_)
 exact zal AWk.refl rfl (h2 := [(1000, gR 88 2 clstD (srtN (fun x : CLst => x.nm) l))]) ⟨rfl, trivial⟩ ⟨rfl, rfl⟩
end Go.Proofs.YtoahnbmedcjpeaaGreatDoor.Ab

namespace Go.Proofs.YtoahnbmedcjpeaaGreatDoor.Ab
open Go.RowKit Go.Lib
attribute [local irreducible] AWp AOps AQ AYield AEff ACall AWk AAny AAt AThen AIn APost NoPanic
set_option maxHeartbeats 4000000 in
theorem zhv (l : List Pol) (hN : l.length ≤ 100000000000) : ACall Tryz.prog 84 [.row 1000, .fn 85 []] [(1000, gR 91 3 polD l)] (fun c h => c = .tup [] ∧ h = [(1000, gR 91 3 polD (srtN (fun x : Pol => x.nm) l))]) := by
 have hs := SPol.sst (enc := polD) zaS (fc := 173) (caps := [.iptr [.sc (.func (.func 85) #[] #[])] 0]) ⟨rfl, rfl⟩ (weakN fun x : Pol => x.nm) (fun x y => rfl) (fun x y => zgf x y) l hN
 refine zc za Tryz.func84 rfl Tryz.ntmps84 (congrArg Array.toList Tryz.results84) (by kernel_rfl) rfl ?_
 refine zf (z8 (t := 1) rfl (zad 85)) ?_
 refine zn ?_
 refine ze ?_
 refine q_d ?_
 refine zi ?_
 refine q_j ?_
 refine zf (zr (id := 3) (ds := [.sc (.func (.func 85) #[] #[])]) rfl rfl) ?_
 repeat ((fail_if_success refine zu ?_); first | refine q_Y ?_ | ((first | apply q_K rfl | apply q_X rfl); (exact qqbg0)) | refine q_T ?_ | ((first | apply q_K rfl | apply q_X rfl); exact zK rfl rfl))
 refine O_cU 1000 hs rfl rfl rfl rfl rfl rfl rfl rfl ?_
 repeat ((fail_if_success refine zu ?_); first | refine q_Y ?_ | ((first | apply q_K rfl | apply q_X rfl); (exact qqbg0)) | refine q_T ?_)
 exact zal AWk.refl rfl (h2 := [(1000, gR 91 3 polD (srtN (fun x : Pol => x.nm) l))]) ⟨rfl, trivial⟩ ⟨rfl, rfl⟩
end Go.Proofs.YtoahnbmedcjpeaaGreatDoor.Ab

namespace Go.Proofs.YtoahnbmedcjpeaaGreatDoor.Ab
open Go.RowKit
section
variable {P : Program} {nt : Nat} {Q : Post} {e : Env} {h : Heap} {ops : Array Oper} {o : Oper} {rest : List Oper} {T : List Nat} {tab : TTab} {fuel i : Nat} {listed : Array Bool}
theorem T_cL {f : FuncId} {args : Array Operand} {ats : Array TypeId} {cs : List AVal} {c : AVal} {v : Value} {d : Nat} (hi : ops[i]? = some o) (hw : awant ops e o = some true) (hdst : o.dst = some d) (hd : Nat.blt d nt = true) (ho : o.op = .call { callee := .value (.func f), args := args, argTypes := ats }) (hx : aevs e args.toList = some cs)
  (H : ACall P f (cs.map (lendV h)) [] (fun c' h' => c' = c ∧ h' = [])) (hc : valA c = some v) (hrel : ∀ w F ι, VRel w F ι c v) (HK : AAny P nt ops Q T fuel (listed.setIfInBounds i true) ((d, c) :: e) h) : AAt P nt ops Q T fuel listed i e h :=
 zbf hi hw (zi9 ho hdst hx H hd hc hrel) fun e' h' ⟨h1, h2⟩ => by subst h1 h2; exact HK
end
end Go.Proofs.YtoahnbmedcjpeaaGreatDoor.Ab

/-
 Texts of a proof, one behind the other (part 6).
-/
import Derived.Test.YtoahnbmedcjpeaaGreatDoorMn1
import Derived.Test.YtoahnbmedcjpeaaGreatDoorMn2
import Derived.Test.YtoahnbmedcjpeaaGreatDoorMn3
import Derived.Test.YtoahnbmedcjpeaaGreatDoorMn4
set_option linter.unusedSimpArgs false
set_option linter.unusedVariables false
namespace Go.Proofs.YtoahnbmedcjpeaaGreatDoor.Ab
set_option maxRecDepth 100000
open Go.RowKit Go.Lib
attribute [local irreducible] AWp AOps AQ AYield AEff ACall AWk AAny AAt AThen AIn APost NoPanic
theorem zhm (id : Nat) (hid : Nat.blt id 1000 = true) (l : List (List UInt8)) (hb : l.length * 16 ≤ 140737488351232) : ACall Tryz.prog 88 [.d (.sl (l.flatMap s1D) l.length)] [] (fun c h => c = .row id ∧ h = [(id, gR 9 1 s1D l)]) := by
 refine ACall.reid (p := 5) hid ?_
 refine zc za Tryz.func88 rfl Tryz.ntmps88 (congrArg Array.toList Tryz.results88) (by kernel_rfl) rfl ?_
 repeat (first | refine q_Y ?_ | ((first | apply q_K rfl | apply q_X rfl); (exact q_H)) | refine q_U ?_ | (refine zaB za rfl rfl rfl rfl rfl rfl ?_; intro b hb2))
 cases b with
 | true =>
  have : l = [] := List.eq_nil_of_length_eq_zero (hb2 rfl).2
  subst this
  repeat (first | refine q_Y ?_ | ((first | apply q_K rfl | apply q_X rfl); (exact q_H)) | refine q_U ?_)
  exact zt (z6 9 1 (t := 2) (id := 5) rfl rfl) rfl (h2 := [(5, gR 9 1 s1D [])]) ⟨rfl, trivial⟩ ⟨rfl, rfl⟩
 | false =>
  repeat (first | refine q_Y ?_ | ((first | apply q_K rfl | apply q_X rfl); (exact q_H)) | refine q_U ?_ | (refine zap za rfl rfl rfl rfl rfl rfl rfl ?_))
  refine zO (rid := 5) za rfl rfl rfl rfl rfl rfl rfl rfl rfl rfl rfl rfl (Src.dat _ _) (zao zb1 _) (by omega) ?_
  repeat (first | refine q_Y ?_ | ((first | apply q_K rfl | apply q_X rfl); (exact q_H)) | refine q_U ?_)
  exact zt AWk.refl rfl (h2 := [(5, gR 9 1 s1D l)]) ⟨by rw [Nat.zero_add]; rfl, trivial⟩ ⟨rfl, rfl⟩
theorem zhs (id : Nat) (hid : Nat.blt id 1000 = true) (l : List Ifx) (hb : l.length * 120 ≤ 140737488351232) : ACall Tryz.prog 89 [.d (.sl (l.flatMap ifxD) l.length)] [] (fun c h => c = .row id ∧ h = [(id, gR 38 11 ifxD l)]) := by
 refine ACall.reid (p := 5) hid ?_
 refine zc za Tryz.func89 rfl Tryz.ntmps89 (congrArg Array.toList Tryz.results89) (by kernel_rfl) rfl ?_
 repeat (first | refine q_Y ?_ | ((first | apply q_K rfl | apply q_X rfl); (exact q_H)) | refine q_U ?_ | (refine zaB za rfl rfl rfl rfl rfl rfl ?_; intro b hb2))
 cases b with
 | true =>
  have : l = [] := List.eq_nil_of_length_eq_zero (hb2 rfl).2
  subst this
  repeat (first | refine q_Y ?_ | ((first | apply q_K rfl | apply q_X rfl); (exact q_H)) | refine q_U ?_)
  exact zt (z6 38 11 (t := 2) (id := 5) rfl rfl) rfl (h2 := [(5, gR 38 11 ifxD [])]) ⟨rfl, trivial⟩ ⟨rfl, rfl⟩
 | false =>
  repeat (first | refine q_Y ?_ | ((first | apply q_K rfl | apply q_X rfl); (exact q_H)) | refine q_U ?_ | (refine zap za rfl rfl rfl rfl rfl rfl rfl ?_))
  refine zO (rid := 5) za rfl rfl rfl rfl rfl rfl rfl rfl rfl rfl rfl rfl (Src.dat _ _) (zao za4 _) (by omega) ?_
  repeat (first | refine q_Y ?_ | ((first | apply q_K rfl | apply q_X rfl); (exact q_H)) | refine q_U ?_)
  exact zt AWk.refl rfl (h2 := [(5, gR 38 11 ifxD l)]) ⟨by rw [Nat.zero_add]; rfl, trivial⟩ ⟨rfl, rfl⟩
theorem zho (id : Nat) (hid : Nat.blt id 1000 = true) (l : List Rwr) (hb : l.length * 32 ≤ 140737488351232) : ACall Tryz.prog 90 [.d (.sl (l.flatMap rwrD) l.length)] [] (fun c h => c = .row id ∧ h = [(id, gR 93 3 rwrD l)]) := by
 refine ACall.reid (p := 5) hid ?_
 refine zc za Tryz.func90 rfl Tryz.ntmps90 (congrArg Array.toList Tryz.results90) (by kernel_rfl) rfl ?_
 repeat (first | refine q_Y ?_ | ((first | apply q_K rfl | apply q_X rfl); (exact q_H)) | refine q_U ?_ | (refine zaB za rfl rfl rfl rfl rfl rfl ?_; intro b hb2))
 cases b with
 | true =>
  have : l = [] := List.eq_nil_of_length_eq_zero (hb2 rfl).2
  subst this
  repeat (first | refine q_Y ?_ | ((first | apply q_K rfl | apply q_X rfl); (exact q_H)) | refine q_U ?_)
  exact zt (z6 93 3 (t := 2) (id := 5) rfl rfl) rfl (h2 := [(5, gR 93 3 rwrD [])]) ⟨rfl, trivial⟩ ⟨rfl, rfl⟩
 | false =>
  repeat (first | refine q_Y ?_ | ((first | apply q_K rfl | apply q_X rfl); (exact q_H)) | refine q_U ?_ | (refine zap za rfl rfl rfl rfl rfl rfl rfl ?_))
  refine zO (rid := 5) za rfl rfl rfl rfl rfl rfl rfl rfl rfl rfl rfl rfl (Src.dat _ _) (zao zcV _) (by omega) ?_
  repeat (first | refine q_Y ?_ | ((first | apply q_K rfl | apply q_X rfl); (exact q_H)) | refine q_U ?_)
  exact zt AWk.refl rfl (h2 := [(5, gR 93 3 rwrD l)]) ⟨by rw [Nat.zero_add]; rfl, trivial⟩ ⟨rfl, rfl⟩
theorem zhn (id : Nat) (hid : Nat.blt id 1000 = true) (l : List Sta) (hb : l.length * 56 ≤ 140737488351232) : ACall Tryz.prog 91 [.d (.sl (l.flatMap staD) l.length)] [] (fun c h => c = .row id ∧ h = [(id, gR 97 7 staD l)]) := by
 refine ACall.reid (p := 5) hid ?_
 refine zc za Tryz.func91 rfl Tryz.ntmps91 (congrArg Array.toList Tryz.results91) (by kernel_rfl) rfl ?_
 repeat (first | refine q_Y ?_ | ((first | apply q_K rfl | apply q_X rfl); (exact q_H)) | refine q_U ?_ | (refine zaB za rfl rfl rfl rfl rfl rfl ?_; intro b hb2))
 cases b with
 | true =>
  have : l = [] := List.eq_nil_of_length_eq_zero (hb2 rfl).2
  subst this
  repeat (first | refine q_Y ?_ | ((first | apply q_K rfl | apply q_X rfl); (exact q_H)) | refine q_U ?_)
  exact zt (z6 97 7 (t := 2) (id := 5) rfl rfl) rfl (h2 := [(5, gR 97 7 staD [])]) ⟨rfl, trivial⟩ ⟨rfl, rfl⟩
 | false =>
  repeat (first | refine q_Y ?_ | ((first | apply q_K rfl | apply q_X rfl); (exact q_H)) | refine q_U ?_ | (refine zap za rfl rfl rfl rfl rfl rfl rfl ?_))
  refine zO (rid := 5) za rfl rfl rfl rfl rfl rfl rfl rfl rfl rfl rfl rfl (Src.dat _ _) (zao zcQ _) (by omega) ?_
  repeat (first | refine q_Y ?_ | ((first | apply q_K rfl | apply q_X rfl); (exact q_H)) | refine q_U ?_)
  exact zt AWk.refl rfl (h2 := [(5, gR 97 7 staD l)]) ⟨by rw [Nat.zero_add]; rfl, trivial⟩ ⟨rfl, rfl⟩
theorem zhp (id : Nat) (hid : Nat.blt id 1000 = true) (l : List Rul) (hb : l.length * 64 ≤ 140737488351232) : ACall Tryz.prog 94 [.d (.sl (l.flatMap rulD) l.length)] [] (fun c h => c = .row id ∧ h = [(id, gR 108 10 rulD l)]) := by
 refine ACall.reid (p := 5) hid ?_
 refine zc za Tryz.func94 rfl Tryz.ntmps94 (congrArg Array.toList Tryz.results94) (by kernel_rfl) rfl ?_
 repeat (first | refine q_Y ?_ | ((first | apply q_K rfl | apply q_X rfl); (exact q_H)) | refine q_U ?_ | (refine zaB za rfl rfl rfl rfl rfl rfl ?_; intro b hb2))
 cases b with
 | true =>
  have : l = [] := List.eq_nil_of_length_eq_zero (hb2 rfl).2
  subst this
  repeat (first | refine q_Y ?_ | ((first | apply q_K rfl | apply q_X rfl); (exact q_H)) | refine q_U ?_)
  exact zt (z6 108 10 (t := 2) (id := 5) rfl rfl) rfl (h2 := [(5, gR 108 10 rulD [])]) ⟨rfl, trivial⟩ ⟨rfl, rfl⟩
 | false =>
  repeat (first | refine q_Y ?_ | ((first | apply q_K rfl | apply q_X rfl); (exact q_H)) | refine q_U ?_ | (refine zap za rfl rfl rfl rfl rfl rfl rfl ?_))
  refine zO (rid := 5) za rfl rfl rfl rfl rfl rfl rfl rfl rfl rfl rfl rfl (Src.dat _ _) (zao zd9 _) (by omega) ?_
  repeat (first | refine q_Y ?_ | ((first | apply q_K rfl | apply q_X rfl); (exact q_H)) | refine q_U ?_)
  exact zt AWk.refl rfl (h2 := [(5, gR 108 10 rulD l)]) ⟨by rw [Nat.zero_add]; rfl, trivial⟩ ⟨rfl, rfl⟩
theorem zht (id : Nat) (hid : Nat.blt id 1000 = true) (l : List LEnt) (hb : l.length * 40 ≤ 140737488351232) : ACall Tryz.prog 97 [.d (.sl (l.flatMap lentD) l.length)] [] (fun c h => c = .row id ∧ h = [(id, gR 110 5 lentD l)]) := by
 refine ACall.reid (p := 5) hid ?_
 refine zc za Tryz.func97 rfl Tryz.ntmps97 (congrArg Array.toList Tryz.results97) (by kernel_rfl) rfl ?_
 repeat (first | refine q_Y ?_ | ((first | apply q_K rfl | apply q_X rfl); (exact q_H)) | refine q_U ?_ | (refine zaB za rfl rfl rfl rfl rfl rfl ?_; intro b hb2))
 cases b with
 | true =>
  have : l = [] := List.eq_nil_of_length_eq_zero (hb2 rfl).2
  subst this
  repeat (first | refine q_Y ?_ | ((first | apply q_K rfl | apply q_X rfl); (exact q_H)) | refine q_U ?_)
  exact zt (z6 110 5 (t := 2) (id := 5) rfl rfl) rfl (h2 := [(5, gR 110 5 lentD [])]) ⟨rfl, trivial⟩ ⟨rfl, rfl⟩
 | false =>
  repeat (first | refine q_Y ?_ | ((first | apply q_K rfl | apply q_X rfl); (exact q_H)) | refine q_U ?_ | (refine zap za rfl rfl rfl rfl rfl rfl rfl ?_))
  refine zO (rid := 5) za rfl rfl rfl rfl rfl rfl rfl rfl rfl rfl rfl rfl (Src.dat _ _) (zao zdr _) (by omega) ?_
  repeat (first | refine q_Y ?_ | ((first | apply q_K rfl | apply q_X rfl); (exact q_H)) | refine q_U ?_)
  exact zt AWk.refl rfl (h2 := [(5, gR 110 5 lentD l)]) ⟨by rw [Nat.zero_add]; rfl, trivial⟩ ⟨rfl, rfl⟩
theorem zc8 (id : Nat) (hid : Nat.blt id 1000 = true) (l : List Int) (hb : l.length * 4 ≤ 140737488351232) : ACall Tryz.prog 102 [.d (.sl (l.flatMap u1D) l.length)] [] (fun c h => c = .row id ∧ h = [(id, gR 35 1 u1D l)]) := by
 refine ACall.reid (p := 5) hid ?_
 refine zc za Tryz.func102 rfl Tryz.ntmps102 (congrArg Array.toList Tryz.results102) (by kernel_rfl) rfl ?_
 repeat (first | refine q_Y ?_ | ((first | apply q_K rfl | apply q_X rfl); (exact q_H)) | refine q_U ?_ | (refine zaB za rfl rfl rfl rfl rfl rfl ?_; intro b hb2))
 cases b with
 | true =>
  have : l = [] := List.eq_nil_of_length_eq_zero (hb2 rfl).2
  subst this
  repeat (first | refine q_Y ?_ | ((first | apply q_K rfl | apply q_X rfl); (exact q_H)) | refine q_U ?_)
  exact zt (z6 35 1 (t := 2) (id := 5) rfl rfl) rfl (h2 := [(5, gR 35 1 u1D [])]) ⟨rfl, trivial⟩ ⟨rfl, rfl⟩
 | false =>
  repeat (first | refine q_Y ?_ | ((first | apply q_K rfl | apply q_X rfl); (exact q_H)) | refine q_U ?_ | (refine zap za rfl rfl rfl rfl rfl rfl rfl ?_))
  refine zO (rid := 5) za rfl rfl rfl rfl rfl rfl rfl rfl rfl rfl rfl rfl (Src.dat _ _) (zao zfl _) (by omega) ?_
  repeat (first | refine q_Y ?_ | ((first | apply q_K rfl | apply q_X rfl); (exact q_H)) | refine q_U ?_)
  exact zt AWk.refl rfl (h2 := [(5, gR 35 1 u1D l)]) ⟨by rw [Nat.zero_add]; rfl, trivial⟩ ⟨rfl, rfl⟩
theorem zet (id : Nat) (hid : Nat.blt id 1000 = true) (l : List Rds) (hb : l.length * 40 ≤ 140737488351232) : ACall Tryz.prog 109 [.d (.sl (l.flatMap rdsD) l.length)] [] (fun c h => c = .row id ∧ h = [(id, gR 112 4 rdsD l)]) := by
 refine ACall.reid (p := 5) hid ?_
 refine zc za Tryz.func109 rfl Tryz.ntmps109 (congrArg Array.toList Tryz.results109) (by kernel_rfl) rfl ?_
 repeat (first | refine q_Y ?_ | ((first | apply q_K rfl | apply q_X rfl); (exact q_H)) | refine q_U ?_ | (refine zaB za rfl rfl rfl rfl rfl rfl ?_; intro b hb2))
 cases b with
 | true =>
  have : l = [] := List.eq_nil_of_length_eq_zero (hb2 rfl).2
  subst this
  repeat (first | refine q_Y ?_ | ((first | apply q_K rfl | apply q_X rfl); (exact q_H)) | refine q_U ?_)
  exact zt (z6 112 4 (t := 2) (id := 5) rfl rfl) rfl (h2 := [(5, gR 112 4 rdsD [])]) ⟨rfl, trivial⟩ ⟨rfl, rfl⟩
 | false =>
  repeat (first | refine q_Y ?_ | ((first | apply q_K rfl | apply q_X rfl); (exact q_H)) | refine q_U ?_ | (refine zap za rfl rfl rfl rfl rfl rfl rfl ?_))
  refine zO (rid := 5) za rfl rfl rfl rfl rfl rfl rfl rfl rfl rfl rfl rfl (Src.dat _ _) (zao zea _) (by omega) ?_
  repeat (first | refine q_Y ?_ | ((first | apply q_K rfl | apply q_X rfl); (exact q_H)) | refine q_U ?_)
  exact zt AWk.refl rfl (h2 := [(5, gR 112 4 rdsD l)]) ⟨by rw [Nat.zero_add]; rfl, trivial⟩ ⟨rfl, rfl⟩
theorem zhq (id : Nat) (hid : Nat.blt id 1000 = true) (l : List Pfx) (hb : l.length * 16 ≤ 140737488351232) : ACall Tryz.prog 112 [.d (.sl (l.flatMap pfxD) l.length)] [] (fun c h => c = .row id ∧ h = [(id, gR 95 2 pfxD l)]) := by
 refine ACall.reid (p := 5) hid ?_
 refine zc za Tryz.func112 rfl Tryz.ntmps112 (congrArg Array.toList Tryz.results112) (by kernel_rfl) rfl ?_
 repeat (first | refine q_Y ?_ | ((first | apply q_K rfl | apply q_X rfl); (exact q_H)) | refine q_U ?_ | (refine zaB za rfl rfl rfl rfl rfl rfl ?_; intro b hb2))
 cases b with
 | true =>
  have : l = [] := List.eq_nil_of_length_eq_zero (hb2 rfl).2
  subst this
  repeat (first | refine q_Y ?_ | ((first | apply q_K rfl | apply q_X rfl); (exact q_H)) | refine q_U ?_)
  exact zt (z6 95 2 (t := 2) (id := 5) rfl rfl) rfl (h2 := [(5, gR 95 2 pfxD [])]) ⟨rfl, trivial⟩ ⟨rfl, rfl⟩
 | false =>
  repeat (first | refine q_Y ?_ | ((first | apply q_K rfl | apply q_X rfl); (exact q_H)) | refine q_U ?_ | (refine zap za rfl rfl rfl rfl rfl rfl rfl ?_))
  refine zO (rid := 5) za rfl rfl rfl rfl rfl rfl rfl rfl rfl rfl rfl rfl (Src.dat _ _) (zao zcW _) (by omega) ?_
  repeat (first | refine q_Y ?_ | ((first | apply q_K rfl | apply q_X rfl); (exact q_H)) | refine q_U ?_)
  exact zt AWk.refl rfl (h2 := [(5, gR 95 2 pfxD l)]) ⟨by rw [Nat.zero_add]; rfl, trivial⟩ ⟨rfl, rfl⟩
theorem zhr (id : Nat) (hid : Nat.blt id 1000 = true) (l : List Per) (hb : l.length * 48 ≤ 140737488351232) : ACall Tryz.prog 113 [.d (.sl (l.flatMap perD) l.length)] [] (fun c h => c = .row id ∧ h = [(id, gR 114 6 perD l)]) := by
 refine ACall.reid (p := 5) hid ?_
 refine zc za Tryz.func113 rfl Tryz.ntmps113 (congrArg Array.toList Tryz.results113) (by kernel_rfl) rfl ?_
 repeat (first | refine q_Y ?_ | ((first | apply q_K rfl | apply q_X rfl); (exact q_H)) | refine q_U ?_ | (refine zaB za rfl rfl rfl rfl rfl rfl ?_; intro b hb2))
 cases b with
 | true =>
  have : l = [] := List.eq_nil_of_length_eq_zero (hb2 rfl).2
  subst this
  repeat (first | refine q_Y ?_ | ((first | apply q_K rfl | apply q_X rfl); (exact q_H)) | refine q_U ?_)
  exact zt (z6 114 6 (t := 2) (id := 5) rfl rfl) rfl (h2 := [(5, gR 114 6 perD [])]) ⟨rfl, trivial⟩ ⟨rfl, rfl⟩
 | false =>
  repeat (first | refine q_Y ?_ | ((first | apply q_K rfl | apply q_X rfl); (exact q_H)) | refine q_U ?_ | (refine zap za rfl rfl rfl rfl rfl rfl rfl ?_))
  refine zO (rid := 5) za rfl rfl rfl rfl rfl rfl rfl rfl rfl rfl rfl rfl (Src.dat _ _) (zao zec _) (by omega) ?_
  repeat (first | refine q_Y ?_ | ((first | apply q_K rfl | apply q_X rfl); (exact q_H)) | refine q_U ?_)
  exact zt AWk.refl rfl (h2 := [(5, gR 114 6 perD l)]) ⟨by rw [Nat.zero_add]; rfl, trivial⟩ ⟨rfl, rfl⟩
end Go.Proofs.YtoahnbmedcjpeaaGreatDoor.Ab

/-
 Texts of a proof, one behind the other (part 22).
-/
import Derived.Test.YtoahnbmedcjpeaaGreatDoorMn1
import Derived.Test.YtoahnbmedcjpeaaGreatDoorMn3
import Derived.Test.YtoahnbmedcjpeaaGreatDoorMn19
import Derived.Test.YtoahnbmedcjpeaaGreatDoorMn20
set_option maxRecDepth 100000
set_option linter.unusedSimpArgs false
set_option linter.unusedVariables false
namespace Go.Proofs.YtoahnbmedcjpeaaGreatDoor.Ab
open Go.RowKit Go.Lib
attribute [local irreducible] AWp AOps AQ AYield AEff ACall AWk AAny AAt AThen AIn APost NoPanic
theorem zjM (s : List UInt8) (k : Nat) (hk : k < s.length) : nmL k (s.drop k) = (!badB k (s[k].toNat : Int) && nmL (k + 1) (s.drop (k + 1))) := by
 rw [List.drop_eq_getElem_cons hk, nmL]
theorem zku (n : Int) : ACall Tryz.prog 114 [strA [45, 95, 46, 47], strA (Utf8.encode n).data.toList] [] (Just (boolA (sgnB n))) := ze3 [45, 95, 46, 47] (Utf8.encode n).data.toList (by decide)
attribute [local irreducible] sgnB letB digB badB
set_option maxHeartbeats 8000000 in
theorem zbS (s : List UInt8) : ACall Tryz.prog 27 [strA s] [] (Just (boolA (nameB s))) := by
 refine zc za Tryz.func27 rfl Tryz.ntmps27 (congrArg Array.toList Tryz.results27) (by kernel_rfl) rfl ?_
 unfold nameB
 by_cases h0 : s = []
 ·subst h0
  repeat (first | refine q_Y ?_ | ((first | apply q_K rfl | apply q_X rfl); (first | exact q_H | (first | exact R_sT rfl rfl rfl rfl (by decide) | exact zdS za rfl rfl rfl))) | refine q_U ?_)
  exact zo rfl ⟨rfl, rfl⟩
 rw [decide_eq_false h0]
 by_cases h1 : s.length ≤ 32
 ·rw [decide_eq_true h1]
  obtain ⟨b, hb⟩ : ∃ b, nmL 0 s = b := ⟨_, rfl⟩
  rw [hb]
  repeat (first | refine q_Y ?_ | ((first | apply q_K rfl | apply q_X rfl); (first | exact q_H | (first | exact R_sF rfl rfl rfl rfl (decide_eq_false h0) | exact zdS za rfl rfl rfl))) | refine q_U ?_ | (refine zi5 za rfl rfl rfl rfl rfl rfl rfl rfl ?_))
  refine zw (fun k : Nat => [(14, .d (.sl (s.flatMap b1D) s.length)), (15, intA (s.length : Int)), (16, intA (k : Int))]) (fun _ => []) (fun k => k ≤ s.length ∧ nmL k (s.drop k) = b) (fun k => s.length - k) 0 ⟨Nat.zero_le _, hb⟩ (q_S) ?_
  rintro k ⟨hk, hn⟩
  try dsimp only
  by_cases hks : k < s.length
  ·have hw := zj ziN s k 1 hks (by decide)
   rw [zjM s k hks] at hn
   obtain ⟨n, hn0⟩ : ∃ n, ((s[k]).toNat : Int) = n := ⟨_, rfl⟩
   have hw2 : win (s.flatMap b1D) (k * 1) 1 = [.sc (.int .u8 n)] := by rw [hw, ← hn0]; rfl
   rw [hn0] at hn
   have hc := zku n
   refine zn ?_
   (first | refine ze ?_ | refine zg rfl mixed (by kernel_rfl) ?_)
   repeat' (first | ((first | apply q_K rfl | apply q_X rfl); (first | exact q_H | fail)) | refine q_d ?_ | refine q_a ?_ | refine q_b ?_ | refine q_e ?_ | refine q_f ?_ | refine q_g ?_ | ((fail_if_success (refine O_wt rfl ?_)); refine O_gs rfl rfl (fun _ => ?_) (fun _ => ?_)) | ((fail_if_success (refine Q_wt rfl ?_)); refine Q_gs rfl rfl (fun _ => ?_) (fun _ => ?_)) | refine zi ?_ | refine zk ?_ | refine q_j ?_ | fail)
   refine zn ?_
   refine A_ct rfl ?_
   refine zz ?_
   refine q_j ?_
   refine zn ?_
   refine zp ?_
   refine zn ?_
   (first | refine ze ?_ | refine zg rfl mixed (by kernel_rfl) ?_)
   repeat' (first | ((first | apply q_K rfl | apply q_X rfl); (first | exact q_A | exact q_R (w := hw2) | exact q_B | fail)) | refine q_d ?_ | refine q_a ?_ | refine q_b ?_ | refine q_e ?_ | refine q_f ?_ | refine q_g ?_ | ((fail_if_success (refine O_wt rfl ?_)); refine O_gs rfl rfl (fun _ => ?_) (fun _ => ?_)) | ((fail_if_success (refine Q_wt rfl ?_)); refine Q_gs rfl rfl (fun _ => ?_) (fun _ => ?_)) | refine zi ?_ | refine zk ?_ | refine q_j ?_ | fail)
   refine zF [(3, intA (k : Int)), (4, .d (.sc (.int .u8 n))), (5, boolA (letB n)), (14, .d (.sl (s.flatMap b1D) s.length)), (15, intA (s.length : Int)), (16, intA (k : Int))] [] ?_ ?_
   ·
    (first | refine ze ?_ | refine zg rfl mixed (by kernel_rfl) ?_)
    repeat' (first | ((first | apply q_K rfl | apply q_X rfl); (first | exact q_H | fail)) | refine q_d ?_ | refine q_a ?_ | refine q_b ?_ | refine q_e ?_ | refine q_f ?_ | refine q_g ?_ | ((fail_if_success (refine O_wt rfl ?_)); refine O_gs rfl rfl (fun _ => ?_) (fun _ => ?_)) | ((fail_if_success (refine Q_wt rfl ?_)); refine Q_gs rfl rfl (fun _ => ?_) (fun _ => ?_)) | refine zi ?_ | refine zk ?_ | refine q_j ?_ | fail)
    all_goals exact zq ⟨rfl, rfl, (congrArg (fun b => some (boolA b)) (by simp only [letB, *, Bool.not_true, Bool.not_false, Bool.true_and, Bool.false_and, Bool.and_true, Bool.and_false, Bool.or_true, Bool.or_false, Bool.true_or, Bool.false_or])), rfl, rfl, rfl, trivial⟩ trivial
   refine zF [(14, .d (.sl (s.flatMap b1D) s.length)), (15, intA (s.length : Int)), (16, intA (k : Int)), (55, boolA (badB k n))] [] ?_ ?_
   ·
    (first | refine ze ?_ | refine zg rfl mixed (by kernel_rfl) ?_)
    repeat' (first | ((first | apply q_K rfl | apply q_X rfl); (first | exact q_H | (exact ziX za rfl rfl rfl rfl))) | refine q_d ?_ | refine q_a ?_ | refine q_b ?_ | refine q_e ?_ | refine q_f ?_ | refine q_g ?_ | ((fail_if_success (refine O_wt rfl ?_)); refine O_gs rfl rfl (fun _ => ?_) (fun _ => ?_)) | ((fail_if_success (refine Q_wt rfl ?_)); refine Q_gs rfl rfl (fun _ => ?_) (fun _ => ?_)) | refine zi ?_ | refine zk ?_ | refine q_j ?_ | refine q_O hc ?_)
    all_goals exact zq ⟨rfl, rfl, rfl, (congrArg (fun b => some (boolA b)) (by simp only [badB, digB, *, Bool.not_true, Bool.not_false, Bool.true_and, Bool.false_and, Bool.and_true, Bool.and_false, Bool.or_true, Bool.or_false, Bool.true_or, Bool.false_or])), trivial⟩ trivial
   cases hbad : badB k n with
   | true =>
    rw [hbad] at hn
    repeat (first | refine q_Y ?_ | ((first | apply q_K rfl | apply q_X rfl); (exact q_H)) | refine q_U ?_)
    exact zo rfl ⟨by rw [← hn]; rfl, rfl⟩
   | false =>
    rw [hbad] at hn
    repeat (first | refine q_Y ?_ | ((first | apply q_K rfl | apply q_X rfl); (exact q_H)) | refine q_U ?_)
    exact ⟨k + 1, ⟨by omega, hn⟩, by omega, q_S⟩
  ·obtain rfl : k = s.length := by omega
   rw [List.drop_length] at hn
   subst hn
   repeat (first | refine q_Y ?_ | ((first | apply q_K rfl | apply q_X rfl); (exact q_H)) | refine q_U ?_)
   exact zo rfl ⟨rfl, rfl⟩
 ·rw [decide_eq_false h1]
  repeat (first | refine q_Y ?_ | ((first | apply q_K rfl | apply q_X rfl); (first | exact q_H | (first | exact R_sF rfl rfl rfl rfl (decide_eq_false h0) | exact zdS za rfl rfl rfl))) | refine q_U ?_)
  exact zo rfl ⟨rfl, rfl⟩
end Go.Proofs.YtoahnbmedcjpeaaGreatDoor.Ab

namespace Go.Proofs.YtoahnbmedcjpeaaGreatDoor
open Go.RowKit Go.Lib
def failP (o n : Bool) : Int := if o then (if n then 0 else 2) else 1
def withB (n lo hi : Int) : Bool := decide (lo ≤ n) && decide (n ≤ hi)
def portsB (lo hi : Int) : Bool := decide (lo ≤ hi) && decide (hi ≤ 65535)
def mayB (r : Rul) : Bool := decide (r.pr ≥ -1) && decide (r.pr ≤ 255) && (chk r.src == 0) && (chk r.dst == 0) && portsB r.s1 r.s2 && portsB r.d1 r.d2
def filB (f : Fil) : Bool := !(decide ((f.rs.length : Int) > 256) || f.rs.any (fun r => !mayB r))
def badE (e : LEnt) : Bool := (chk e.p != 0) || decide (e.p.b > e.ge) || decide (e.ge > e.le) || decide (e.le > 32)
def entsB (l : List LEnt) : Bool := decide ((l.length : Int) ≤ 256) && !l.any badE
def memsB (l : List Mem) : Bool := decide ((l.length : Int) ≤ 256) && !l.any (fun m => decide ((m.all.length : Int) > 64))
namespace Ab
attribute [local irreducible] AWp AOps AQ AYield AEff ACall AWk AAny AAt AThen AIn APost NoPanic
theorem zah (o n : Bool) : ACall Tryz.prog 117 [boolA o, boolA n] [] (Just (intA (failP o n))) := by
 cases o <;> cases n <;> (
  refine zc za Tryz.func117 rfl Tryz.ntmps117 (congrArg Array.toList Tryz.results117) (by kernel_rfl) rfl ?_
  repeat (first | refine q_Y ?_ | ((first | apply q_K rfl | apply q_X rfl); (exact q_H)) | refine q_U ?_)
  exact zo rfl ⟨rfl, rfl⟩)
theorem zam (n lo hi : Int) : ACall Tryz.prog 187 [intA n, intA lo, intA hi] [] (Just (boolA (withB n lo hi))) := by
 refine zc za Tryz.func187 rfl Tryz.ntmps187 (congrArg Array.toList Tryz.results187) (by kernel_rfl) rfl ?_
 repeat' (first | refine zn ?_ | refine zp ?_ | refine ze ?_ | refine zg rfl mixed (by kernel_rfl) ?_ | ((first | apply q_K rfl | apply q_X rfl); (first | exact q_H | fail)) | refine zi ?_ | refine zk ?_ | refine q_j ?_ | refine q_k ?_ | refine q_d ?_ | refine q_a ?_ | refine q_b ?_ | refine q_e ?_ | refine q_f ?_ | refine q_g ?_ | ((fail_if_success (refine O_wt rfl ?_)); refine O_gs rfl rfl (fun _ => ?_) (fun _ => ?_)) | ((fail_if_success (refine Q_wt rfl ?_)); refine Q_gs rfl rfl (fun _ => ?_) (fun _ => ?_)) | refine A_ct rfl ?_ | refine A_cf rfl ?_ | refine zU rfl (fun _ => ?_) (fun _ => ?_) | refine zz ?_ | refine zA ?_ | refine zS ?_ | refine q_l ?_ | refine q_m ?_ | refine q_n ?_ | refine q_h ?_ | refine q_o ?_ | fail)
 all_goals exact zo rfl ⟨congrArg boolA (by simp only [withB, *, Bool.not_true, Bool.not_false, Bool.true_and, Bool.false_and, Bool.and_true, Bool.and_false, Bool.or_true, Bool.or_false, Bool.true_or, Bool.false_or, if_true, if_false, Bool.false_eq_true, reduceIte]), rfl⟩
theorem zfn (lo hi : Int) : ACall Tryz.prog 242 [.agg [u32A lo, u32A hi]] [] (Just (boolA (portsB lo hi))) := by
 refine zc za Tryz.func242 rfl Tryz.ntmps242 (congrArg Array.toList Tryz.results242) (by kernel_rfl) rfl ?_
 repeat' (first | refine zn ?_ | refine zp ?_ | refine ze ?_ | refine zg rfl mixed (by kernel_rfl) ?_ | ((first | apply q_K rfl | apply q_X rfl); (first | exact q_H | fail)) | refine zi ?_ | refine zk ?_ | refine q_j ?_ | refine q_k ?_ | refine q_d ?_ | refine q_a ?_ | refine q_b ?_ | refine q_e ?_ | refine q_f ?_ | refine q_g ?_ | ((fail_if_success (refine O_wt rfl ?_)); refine O_gs rfl rfl (fun _ => ?_) (fun _ => ?_)) | ((fail_if_success (refine Q_wt rfl ?_)); refine Q_gs rfl rfl (fun _ => ?_) (fun _ => ?_)) | refine A_ct rfl ?_ | refine A_cf rfl ?_ | refine zU rfl (fun _ => ?_) (fun _ => ?_) | refine zz ?_ | refine zA ?_ | refine zS ?_ | refine q_l ?_ | refine q_m ?_ | refine q_n ?_ | refine q_h ?_ | refine q_o ?_ | fail)
 all_goals exact zo rfl ⟨congrArg boolA (by simp only [portsB, *, Bool.not_true, Bool.not_false, Bool.true_and, Bool.false_and, Bool.and_true, Bool.and_false, Bool.or_true, Bool.or_false, Bool.true_or, Bool.false_or, if_true, if_false, Bool.false_eq_true, reduceIte]), rfl⟩
attribute [local irreducible] withB portsB
set_option maxHeartbeats 4000000 in
theorem zkz (r : Rul) (hr : r.ok') : ACall Tryz.prog 193 [aggD (rulD r)] [] (Just (boolA (mayB r))) := by
 have h1 := zcf r.src hr.1
 have h2 := zcf r.dst hr.2
 have h3 := zfn r.s1 r.s2
 have h4 := zfn r.d1 r.d2
 clear hr
 obtain ⟨ok, pr, ⟨sa, sb⟩, ⟨da, db⟩, s1, s2, d1, d2⟩ := r
 dsimp only at h1 h2 h3 h4
 unfold mayB
 dsimp only
 obtain ⟨c1, e1⟩ : ∃ c, chk ⟨sa, sb⟩ = c := ⟨_, rfl⟩
 obtain ⟨c2, e2⟩ : ∃ c, chk ⟨da, db⟩ = c := ⟨_, rfl⟩
 obtain ⟨b3, e3⟩ : ∃ c, portsB s1 s2 = c := ⟨_, rfl⟩
 obtain ⟨b4, e4⟩ : ∃ c, portsB d1 d2 = c := ⟨_, rfl⟩
 rw [e1] at h1 ⊢
 rw [e2] at h2 ⊢
 rw [e3] at h3 ⊢
 rw [e4] at h4 ⊢
 clear e1 e2 e3 e4
 refine zc za Tryz.func193 rfl Tryz.ntmps193 (congrArg Array.toList Tryz.results193) (by kernel_rfl) rfl ?_
 repeat' (first | refine zn ?_ | refine zp ?_ | refine ze ?_ | refine zg rfl mixed (by kernel_rfl) ?_ | ((first | apply q_K rfl | apply q_X rfl); (first | exact q_H | fail)) | refine zi ?_ | refine zk ?_ | refine q_j ?_ | refine q_k ?_ | refine q_d ?_ | refine q_a ?_ | refine q_b ?_ | refine q_e ?_ | refine q_f ?_ | refine q_g ?_ | ((fail_if_success (refine O_wt rfl ?_)); refine O_gs rfl rfl (fun _ => ?_) (fun _ => ?_)) | ((fail_if_success (refine Q_wt rfl ?_)); refine Q_gs rfl rfl (fun _ => ?_) (fun _ => ?_)) | refine A_ct rfl ?_ | refine A_cf rfl ?_ | refine zU rfl (fun _ => ?_) (fun _ => ?_) | refine zz ?_ | refine zA ?_ | refine zS ?_ | refine q_l ?_ | refine q_m ?_ | refine q_n ?_ | refine q_h ?_ | refine q_o ?_ | (first | refine q_O h1 ?_ | refine q_O h2 ?_ | refine q_O h3 ?_ | refine q_O h4 ?_))
 all_goals exact zo rfl ⟨congrArg boolA (by simp only [*, Bool.true_and, Bool.false_and, Bool.and_true]), rfl⟩
theorem zj2 (r : Rul) (hr : r.ok') : ACall Tryz.prog 192 ([aggD (rulD r)] ++ []) [] (Just (boolA (!mayB r))) := by
 have h1 := zkz r hr
 obtain ⟨b, hb⟩ : ∃ b, mayB r = b := ⟨_, rfl⟩
 rw [hb] at h1 ⊢
 refine zc za Tryz.func192 rfl Tryz.ntmps192 (congrArg Array.toList Tryz.results192) (by kernel_rfl) rfl ?_
 repeat (first | refine q_Y ?_ | ((first | apply q_K rfl | apply q_X rfl); (exact q_H)) | refine q_U ?_ | refine q_O h1 ?_)
 exact zo rfl ⟨rfl, rfl⟩
theorem zhc (f : Fil) (hf : f.ok) (hr : ∀ r ∈ f.rs, r.ok') : ACall Tryz.prog 124 [aggD (filD f)] [] (Just (intA (if filB f then 0 else 121))) := by
 have h1 := zkP f.rs 192 (fun r => !mayB r) (fun r h => zj2 r (hr r h)) (by have : f.rs.length * 64 ≤ 140737488351232 := hf; omega)
 unfold filB
 obtain ⟨b, hb⟩ : ∃ b, (f.rs.any fun r => !mayB r) = b := ⟨_, rfl⟩
 rw [hb] at h1 ⊢
 refine zc za Tryz.func124 rfl Tryz.ntmps124 (congrArg Array.toList Tryz.results124) (by kernel_rfl) rfl ?_
 by_cases h0 : (f.rs.length : Int) > 256
 ·rw [decide_eq_true h0]
  repeat (first | refine q_Y ?_ | ((first | apply q_K rfl | apply q_X rfl); (exact q_H)) | refine q_U ?_ | refine q_O h1 ?_)
  exact zo rfl ⟨rfl, rfl⟩
 ·rw [decide_eq_false h0]
  cases b <;> (
   repeat (first | refine q_Y ?_ | ((first | apply q_K rfl | apply q_X rfl); (exact q_H)) | refine q_U ?_ | refine q_O h1 ?_)
   exact zo rfl ⟨rfl, rfl⟩)
set_option maxHeartbeats 4000000 in
theorem zke (e : LEnt) (he : e.ok') : ACall Tryz.prog 198 ([aggD (lentD e)] ++ []) [] (Just (boolA (badE e))) := by
 have h1 := zcf e.p he
 clear he
 obtain ⟨ok, ⟨sa, sb⟩, ge, le⟩ := e
 dsimp only at h1
 unfold badE
 dsimp only
 obtain ⟨c1, e1⟩ : ∃ c, chk ⟨sa, sb⟩ = c := ⟨_, rfl⟩
 rw [e1] at h1 ⊢
 clear e1
 refine zc za Tryz.func198 rfl Tryz.ntmps198 (congrArg Array.toList Tryz.results198) (by kernel_rfl) rfl ?_
 repeat' (first | refine zn ?_ | refine zp ?_ | refine ze ?_ | refine zg rfl mixed (by kernel_rfl) ?_ | ((first | apply q_K rfl | apply q_X rfl); (first | exact q_H | fail)) | refine zi ?_ | refine zk ?_ | refine q_j ?_ | refine q_k ?_ | refine q_d ?_ | refine q_a ?_ | refine q_b ?_ | refine q_e ?_ | refine q_f ?_ | refine q_g ?_ | ((fail_if_success (refine O_wt rfl ?_)); refine O_gs rfl rfl (fun _ => ?_) (fun _ => ?_)) | ((fail_if_success (refine Q_wt rfl ?_)); refine Q_gs rfl rfl (fun _ => ?_) (fun _ => ?_)) | refine A_ct rfl ?_ | refine A_cf rfl ?_ | refine zU rfl (fun _ => ?_) (fun _ => ?_) | refine zz ?_ | refine zA ?_ | refine zS ?_ | refine q_l ?_ | refine q_m ?_ | refine q_n ?_ | refine q_h ?_ | refine q_o ?_ | (first | refine q_O h1 ?_))
 all_goals exact zo rfl ⟨congrArg boolA (by simp only [*, Bool.true_or, Bool.false_or, Bool.or_true]), rfl⟩
theorem zf5 (l : List LEnt) (hl : ∀ e ∈ l, e.ok') (hn : l.length ≤ 140737488355328) : ACall Tryz.prog 131 [.d (.sl (l.flatMap lentD) l.length)] [] (Just (boolA (entsB l))) := by
 have h1 := zkR l 198 badE (fun e h => zke e (hl e h)) hn
 unfold entsB
 obtain ⟨b, hb⟩ : ∃ b, l.any badE = b := ⟨_, rfl⟩
 rw [hb] at h1 ⊢
 refine zc za Tryz.func131 rfl Tryz.ntmps131 (congrArg Array.toList Tryz.results131) (by kernel_rfl) rfl ?_
 repeat' (first | refine zn ?_ | refine zp ?_ | refine ze ?_ | refine zg rfl mixed (by kernel_rfl) ?_ | ((first | apply q_K rfl | apply q_X rfl); (first | exact q_H | fail)) | refine zi ?_ | refine zk ?_ | refine q_j ?_ | refine q_k ?_ | refine q_d ?_ | refine q_a ?_ | refine q_b ?_ | refine q_e ?_ | refine q_f ?_ | refine q_g ?_ | ((fail_if_success (refine O_wt rfl ?_)); refine O_gs rfl rfl (fun _ => ?_) (fun _ => ?_)) | ((fail_if_success (refine Q_wt rfl ?_)); refine Q_gs rfl rfl (fun _ => ?_) (fun _ => ?_)) | refine A_ct rfl ?_ | refine A_cf rfl ?_ | refine zU rfl (fun _ => ?_) (fun _ => ?_) | refine zz ?_ | refine zA ?_ | refine zS ?_ | refine q_l ?_ | refine q_m ?_ | refine q_n ?_ | refine q_h ?_ | refine q_o ?_ | refine q_O h1 ?_)
 all_goals exact zo rfl ⟨congrArg boolA (by simp only [*, Bool.true_and, Bool.false_and]), rfl⟩
theorem zkd (m : Mem) : ACall Tryz.prog 202 ([aggD (memD m)] ++ []) [] (Just (boolA (decide ((m.all.length : Int) > 64)))) := by
 refine zc za Tryz.func202 rfl Tryz.ntmps202 (congrArg Array.toList Tryz.results202) (by kernel_rfl) rfl ?_
 repeat (first | refine q_Y ?_ | ((first | apply q_K rfl | apply q_X rfl); (exact q_H)) | refine q_U ?_)
 exact zo rfl ⟨rfl, rfl⟩
theorem zf0 (l : List Mem) (hn : l.length ≤ 140737488355328) : ACall Tryz.prog 134 [.d (.sl (l.flatMap memD) l.length)] [] (Just (boolA (memsB l))) := by
 have h1 := zkQ l 202 (fun m => decide ((m.all.length : Int) > 64)) (fun e h => zkd e) hn
 unfold memsB
 obtain ⟨b, hb⟩ : ∃ b, (l.any fun m => decide ((m.all.length : Int) > 64)) = b := ⟨_, rfl⟩
 rw [hb] at h1 ⊢
 refine zc za Tryz.func134 rfl Tryz.ntmps134 (congrArg Array.toList Tryz.results134) (by kernel_rfl) rfl ?_
 repeat' (first | refine zn ?_ | refine zp ?_ | refine ze ?_ | refine zg rfl mixed (by kernel_rfl) ?_ | ((first | apply q_K rfl | apply q_X rfl); (first | exact q_H | fail)) | refine zi ?_ | refine zk ?_ | refine q_j ?_ | refine q_k ?_ | refine q_d ?_ | refine q_a ?_ | refine q_b ?_ | refine q_e ?_ | refine q_f ?_ | refine q_g ?_ | ((fail_if_success (refine O_wt rfl ?_)); refine O_gs rfl rfl (fun _ => ?_) (fun _ => ?_)) | ((fail_if_success (refine Q_wt rfl ?_)); refine Q_gs rfl rfl (fun _ => ?_) (fun _ => ?_)) | refine A_ct rfl ?_ | refine A_cf rfl ?_ | refine zU rfl (fun _ => ?_) (fun _ => ?_) | refine zz ?_ | refine zA ?_ | refine zS ?_ | refine q_l ?_ | refine q_m ?_ | refine q_n ?_ | refine q_h ?_ | refine q_o ?_ | refine q_O h1 ?_)
 all_goals exact zo rfl ⟨congrArg boolA (by simp only [*, Bool.true_and, Bool.false_and]), rfl⟩
end Ab
end Go.Proofs.YtoahnbmedcjpeaaGreatDoor

namespace Go.Proofs.YtoahnbmedcjpeaaGreatDoor
open Go.RowKit Go.Lib
structure Bk where
 v : List (List UInt8)
 f : List (List UInt8)
 p : List (List UInt8)
 c : List (List UInt8)
 o : List (List UInt8)
def staO (x : Sta) : Bool := (chk x.p == 0) && (x.x == (x.via == 0)) && withB x.dist 1 255 && withB x.tag 0 16777216
def staF (b : Bk) (x : Sta) : Int := failP (staO x) (noneB b.v x.vrf)
def ifxO (l : List Ifx) (i : Nat) (x : Ifx) : Bool := nameB x.nm && Ab.fstB (fun y : Ifx => y.nm) l i && ((x.a == 0) && (x.b == 0) || (x.a != 0) && withB x.b 1 32) && decide (x.side ≤ 2) && withB x.area (-1) 16777216 && withB x.cost 1 65535
def ifxF (b : Bk) (l : List Ifx) (i : Nat) (x : Ifx) : Int := failP (ifxO l i x) (noneB b.v x.vrf && noneB b.f x.fin && noneB b.f x.fout)
namespace Ab
abbrev bkM : List AVal := [.mp 1001, .mp 1002, .mp 1003, .mp 1004, .mp 1005]
abbrev bkA : AVal := .agg bkM
abbrev bkH (b : Bk) : Heap := [(1001, cntB b.v), (1002, cntB b.f), (1003, cntB b.p), (1004, cntB b.c), (1005, cntB b.o)]
theorem kc1 (i : Nat) (l : List (List UInt8)) : some (killB i (cntB l)) = some (cntB l) := by rw [zV]
theorem kc2 (i j : Nat) (l : List (List UInt8)) : some (killB i (killB j (cntB l))) = some (cntB l) := by rw [zV, zV]
attribute [local irreducible] AWp AOps AQ AYield AEff ACall AWk AAny AAt AThen AIn APost NoPanic
attribute [local irreducible] withB nameB noneB
set_option maxHeartbeats 4000000 in
theorem zgz (b : Bk) (x : Sta) (hx : x.p.ok) : ACall Tryz.prog 128 [bkA, aggD (staD x)] (bkH b) (fun c h => c = intA (staF b x) ∧ h = bkH b) := by
 have h1 := zcf x.p hx
 clear hx
 obtain ⟨vrf, ⟨pa, pb⟩, via, xx, dist, tag⟩ := x
 have h2 := zam dist 1 255
 have h3 := zam tag 0 16777216
 unfold staF staO
 dsimp only at h1 ⊢
 obtain ⟨c1, e1⟩ : ∃ c, chk ⟨pa, pb⟩ = c := ⟨_, rfl⟩
 rw [e1] at h1 ⊢
 clear e1
 refine zc za Tryz.func128 rfl Tryz.ntmps128 (congrArg Array.toList Tryz.results128) (by kernel_rfl) rfl ?_
 refine zF [(2, .ptr 2 0), (3, .ptr 3 0)] ((2, .var bkM) :: (3, .var ((staD ⟨vrf, ⟨pa, pb⟩, via, xx, dist, tag⟩).map .d)) :: bkH b) ?_ ?_
 ·
  (first | refine ze ?_ | refine zg rfl mixed (by kernel_rfl) ?_)
  repeat' (first | ((first | apply q_K rfl | apply q_X rfl); (first | exact q_H | fail)) | refine q_d ?_ | refine q_a ?_ | refine q_b ?_ | refine q_e ?_ | refine q_f ?_ | refine q_g ?_ | ((fail_if_success (refine O_wt rfl ?_)); refine O_gs rfl rfl (fun _ => ?_) (fun _ => ?_)) | ((fail_if_success (refine Q_wt rfl ?_)); refine Q_gs rfl rfl (fun _ => ?_) (fun _ => ?_)) | refine zi ?_ | refine zk ?_ | refine q_j ?_ | fail)
  exact zq ⟨rfl, rfl, trivial⟩ ⟨rfl, rfl, (by first | rfl | exact kc1 _ _ | exact kc2 _ _ _), (by first | rfl | exact kc1 _ _ | exact kc2 _ _ _), (by first | rfl | exact kc1 _ _ | exact kc2 _ _ _), (by first | rfl | exact kc1 _ _ | exact kc2 _ _ _), (by first | rfl | exact kc1 _ _ | exact kc2 _ _ _), trivial⟩
 refine zF [(2, .ptr 2 0), (3, .ptr 3 0), (5, boolA ((c1 == 0) && (xx == (via == 0)) && withB dist 1 255 && withB tag 0 16777216))] ((2, .var bkM) :: (3, .var ((staD ⟨vrf, ⟨pa, pb⟩, via, xx, dist, tag⟩).map .d)) :: bkH b) ?_ ?_
 ·
  (first | refine ze ?_ | refine zg rfl mixed (by kernel_rfl) ?_)
  repeat' (first | ((first | apply q_K rfl | apply q_X rfl); (first | exact q_H | (exact zhH za rfl rfl rfl rfl rfl))) | refine q_d ?_ | refine q_a ?_ | refine q_b ?_ | refine q_e ?_ | refine q_f ?_ | refine q_g ?_ | ((fail_if_success (refine O_wt rfl ?_)); refine O_gs rfl rfl (fun _ => ?_) (fun _ => ?_)) | ((fail_if_success (refine Q_wt rfl ?_)); refine Q_gs rfl rfl (fun _ => ?_) (fun _ => ?_)) | refine zi ?_ | refine zk ?_ | refine q_j ?_ | (first | refine q_O h1 ?_ | refine q_O h2 ?_ | refine q_O h3 ?_))
  all_goals exact zq ⟨rfl, rfl, congrArg (fun b => some (boolA b)) (by simp only [*, Bool.true_and, Bool.false_and]), trivial⟩ ⟨rfl, rfl, rfl, rfl, rfl, rfl, rfl, trivial⟩
 have hf := zah ((c1 == 0) && (xx == (via == 0)) && withB dist 1 255 && withB tag 0 16777216) (noneB b.v vrf)
 repeat (first | refine q_Y ?_ | ((first | apply q_K rfl | apply q_X rfl); (exact q_H)) | refine q_U ?_ | (first | refine zbx rfl rfl rfl rfl rfl rfl ?_ | refine q_O hf ?_))
 exact zt (h2 := bkH b) AWk.refl rfl ⟨rfl, rfl, rfl, rfl, rfl, trivial⟩ ⟨rfl, rfl⟩
set_option maxHeartbeats 16000000 in
theorem ziu (b : Bk) (d : Dvc) (i : Nat) (hi : i < d.ifs.length) (hn : d.ifs.length ≤ 140737488355328) : ACall Tryz.prog 121 [bkA, dvcA d, intA (i : Int)] (bkH b) (fun c h => c = intA (ifxF b d.ifs i d.ifs[i]) ∧ h = bkH b) := by
 have hw := zj za4 d.ifs i 11 hi (by decide)
 have h1 := zjX d.ifs 77 i hi (fun y => y.nm) (fun y => zjf y) hn
 obtain ⟨fb, ef⟩ : ∃ fb, fstB (fun y : Ifx => y.nm) d.ifs i = fb := ⟨_, rfl⟩
 unfold ifxF ifxO
 rw [ef] at h1 ⊢
 obtain ⟨x, hx⟩ : ∃ x, d.ifs[i] = x := ⟨_, rfl⟩
 rw [hx] at hw ⊢
 clear hx ef
 obtain ⟨nm, kd, vrfs, ifs, fils, rws, sts, pls, cls, pols, osp, bgp⟩ := d
 obtain ⟨xn, xv, xa, xb, xd, xin, xout, xs, xar, xco, xpa⟩ := x
 dsimp only at hi hn hw h1 ⊢
 have h2 := zbS xn
 have h3 := zam xb 1 32
 have h4 := zam xar (-1) 16777216
 have h5 := zam xco 1 65535
 refine zc za Tryz.func121 rfl Tryz.ntmps121 (congrArg Array.toList Tryz.results121) (by kernel_rfl) rfl ?_
 refine zF [(2, intA (i : Int)), (3, .ptr 3 0), (4, .ptr 4 0)] ((3, .var bkM) :: (4, .var ((dvcD ⟨nm, kd, vrfs, ifs, fils, rws, sts, pls, cls, pols, osp, bgp⟩).map .d)) :: bkH b) ?_ ?_
 ·
  (first | refine ze ?_ | refine zg rfl mixed (by kernel_rfl) ?_)
  repeat' (first | ((first | apply q_K rfl | apply q_X rfl); (first | exact q_H | fail)) | refine q_d ?_ | refine q_a ?_ | refine q_b ?_ | refine q_e ?_ | refine q_f ?_ | refine q_g ?_ | ((fail_if_success (refine O_wt rfl ?_)); refine O_gs rfl rfl (fun _ => ?_) (fun _ => ?_)) | ((fail_if_success (refine Q_wt rfl ?_)); refine Q_gs rfl rfl (fun _ => ?_) (fun _ => ?_)) | refine zi ?_ | refine zk ?_ | refine q_j ?_ | fail)
  exact zq ⟨rfl, rfl, rfl, trivial⟩ ⟨rfl, rfl, (by first | rfl | exact kc1 _ _ | exact kc2 _ _ _), (by first | rfl | exact kc1 _ _ | exact kc2 _ _ _), (by first | rfl | exact kc1 _ _ | exact kc2 _ _ _), (by first | rfl | exact kc1 _ _ | exact kc2 _ _ _), (by first | rfl | exact kc1 _ _ | exact kc2 _ _ _), trivial⟩
 refine zF [(2, intA (i : Int)), (3, .ptr 3 0), (4, .ptr 4 0), (7, .ptr 7 0)] ((7, .var ((ifxD ⟨xn, xv, xa, xb, xd, xin, xout, xs, xar, xco, xpa⟩).map .d)) :: (3, .var bkM) :: (4, .var ((dvcD ⟨nm, kd, vrfs, ifs, fils, rws, sts, pls, cls, pols, osp, bgp⟩).map .d)) :: bkH b) ?_ ?_
 ·
  (first | refine ze ?_ | refine zg rfl mixed (by kernel_rfl) ?_)
  repeat' (first | ((first | apply q_K rfl | apply q_X rfl); (first | exact q_A | exact q_R (w := (by first | exact hw | rfl)) | exact q_B | fail)) | refine q_d ?_ | refine q_a ?_ | refine q_b ?_ | refine q_e ?_ | refine q_f ?_ | refine q_g ?_ | ((fail_if_success (refine O_wt rfl ?_)); refine O_gs rfl rfl (fun _ => ?_) (fun _ => ?_)) | ((fail_if_success (refine Q_wt rfl ?_)); refine Q_gs rfl rfl (fun _ => ?_) (fun _ => ?_)) | refine zi ?_ | refine zk ?_ | refine q_j ?_ | fail)
  exact zq ⟨rfl, rfl, rfl, rfl, trivial⟩ ⟨rfl, rfl, rfl, (by first | rfl | exact kc1 _ _ | exact kc2 _ _ _), (by first | rfl | exact kc1 _ _ | exact kc2 _ _ _), (by first | rfl | exact kc1 _ _ | exact kc2 _ _ _), (by first | rfl | exact kc1 _ _ | exact kc2 _ _ _), (by first | rfl | exact kc1 _ _ | exact kc2 _ _ _), trivial⟩
 obtain ⟨own1, ho1⟩ : ∃ c, ((xa == 0) && (xb == 0) || (xa != 0) && withB xb 1 32) = c := ⟨_, rfl⟩
 rw [ho1]
 refine zF [(2, intA (i : Int)), (3, .ptr 3 0), (4, .ptr 4 0), (7, .ptr 7 0), (8, boolA own1)] ((7, .var ((ifxD ⟨xn, xv, xa, xb, xd, xin, xout, xs, xar, xco, xpa⟩).map .d)) :: (3, .var bkM) :: (4, .var ((dvcD ⟨nm, kd, vrfs, ifs, fils, rws, sts, pls, cls, pols, osp, bgp⟩).map .d)) :: bkH b) ?_ ?_
 ·
  (first | refine ze ?_ | refine zg rfl mixed (by kernel_rfl) ?_)
  repeat' (first | ((first | apply q_K rfl | apply q_X rfl); (first | exact q_H | fail)) | refine q_d ?_ | refine q_a ?_ | refine q_b ?_ | refine q_e ?_ | refine q_f ?_ | refine q_g ?_ | ((fail_if_success (refine O_wt rfl ?_)); refine O_gs rfl rfl (fun _ => ?_) (fun _ => ?_)) | ((fail_if_success (refine Q_wt rfl ?_)); refine Q_gs rfl rfl (fun _ => ?_) (fun _ => ?_)) | refine zi ?_ | refine zk ?_ | refine q_j ?_ | (first | refine q_O h3 ?_))
  all_goals exact zq ⟨rfl, rfl, rfl, rfl, congrArg (fun b => some (boolA b)) (by rw [← ho1]; clear ho1 h1 h2 h3 h4 h5 hw; dsimp only [bne] at *; generalize (xa == 0) = p at *; generalize (xb == 0) = q at *; generalize withB xb 1 32 = r at *; cases p <;> cases q <;> cases r <;> first | rfl | contradiction), trivial⟩ ⟨rfl, rfl, rfl, rfl, rfl, rfl, rfl, rfl, trivial⟩
 clear ho1 h3
 obtain ⟨own2, ho2⟩ : ∃ c, (nameB xn && fb && own1 && decide (xs ≤ 2) && withB xar (-1) 16777216 && withB xco 1 65535) = c := ⟨_, rfl⟩
 rw [ho2]
 refine zF [(2, intA (i : Int)), (3, .ptr 3 0), (4, .ptr 4 0), (7, .ptr 7 0), (9, boolA own2)] ((7, .var ((ifxD ⟨xn, xv, xa, xb, xd, xin, xout, xs, xar, xco, xpa⟩).map .d)) :: (3, .var bkM) :: (4, .var ((dvcD ⟨nm, kd, vrfs, ifs, fils, rws, sts, pls, cls, pols, osp, bgp⟩).map .d)) :: bkH b) ?_ ?_
 ·
  (first | refine ze ?_ | refine zg rfl mixed (by kernel_rfl) ?_)
  repeat' (first | ((first | apply q_K rfl | apply q_X rfl); (first | exact q_H | fail)) | refine q_d ?_ | refine q_a ?_ | refine q_b ?_ | refine q_e ?_ | refine q_f ?_ | refine q_g ?_ | ((fail_if_success (refine O_wt rfl ?_)); refine O_gs rfl rfl (fun _ => ?_) (fun _ => ?_)) | ((fail_if_success (refine Q_wt rfl ?_)); refine Q_gs rfl rfl (fun _ => ?_) (fun _ => ?_)) | refine zi ?_ | refine zk ?_ | refine q_j ?_ | (first | refine q_O h1 ?_ | refine q_O h2 ?_ | refine q_O h4 ?_ | refine q_O h5 ?_))
  all_goals exact zq ⟨rfl, rfl, rfl, rfl, congrArg (fun b => some (boolA b)) (by rw [← ho2]; simp only [*, Bool.true_and, Bool.false_and]), trivial⟩ ⟨rfl, rfl, rfl, rfl, rfl, rfl, rfl, rfl, trivial⟩
 clear ho2 h1 h2 h4 h5
 have hf1 := zah own2 false
 have hf2 := zah own2 (noneB b.f xout)
 repeat' (first | refine zn ?_ | refine zp ?_ | refine ze ?_ | refine zg rfl mixed (by kernel_rfl) ?_ | ((first | apply q_K rfl | apply q_X rfl); (first | exact q_H | fail)) | refine zi ?_ | refine zk ?_ | refine q_j ?_ | refine q_k ?_ | refine q_d ?_ | refine q_a ?_ | refine q_b ?_ | refine q_e ?_ | refine q_f ?_ | refine q_g ?_ | ((fail_if_success (refine O_wt rfl ?_)); refine O_gs rfl rfl (fun _ => ?_) (fun _ => ?_)) | ((fail_if_success (refine Q_wt rfl ?_)); refine Q_gs rfl rfl (fun _ => ?_) (fun _ => ?_)) | refine A_ct rfl ?_ | refine A_cf rfl ?_ | refine zU rfl (fun _ => ?_) (fun _ => ?_) | refine zz ?_ | refine zA ?_ | refine zS ?_ | refine q_l ?_ | refine q_m ?_ | refine q_n ?_ | refine q_h ?_ | refine q_o ?_ | (first | refine zbx rfl rfl rfl rfl rfl rfl ?_ | refine q_O hf1 ?_ | refine q_O hf2 ?_))
 all_goals exact zt (h2 := bkH b) AWk.refl rfl ⟨rfl, rfl, rfl, rfl, rfl, trivial⟩ ⟨by simp only [*, Bool.true_and, Bool.false_and], rfl⟩
end Ab
end Go.Proofs.YtoahnbmedcjpeaaGreatDoor

namespace Go.Proofs.YtoahnbmedcjpeaaGreatDoor
open Go.RowKit Go.Lib
def anK (k : IntKind) (a b : Int) : Int := k.wrap ((BitVec.ofInt k.bits a &&& ~~~ BitVec.ofInt k.bits b).toNat : Nat)
def redG (typed : Bool) (x : Rds) : Bool := if typed then (x.ty == 1) || (x.ty == 2) else (x.ty == 0)
def redBad (may : Int) (typed : Bool) (x : Rds) : Bool := !redG typed x || (x.from_ == 0) || (anK .u8 x.from_ may != 0) || !withB x.met (-1) 16777216
def redsP (b : Bk) (may : Int) (typed : Bool) (l : List Rds) : Bool × Bool := if l.any (redBad may typed) then (false, true) else (decide ((l.length : Int) ≤ 256), l.all fun x => noneB b.o x.pol)
namespace Ab
section
variable {P : Program} {T : List Nat} {e : Env} {h : Heap} {o : Oper}
theorem zhW {t u : TypeId} {x y : Operand} {k : IntKind} {a b : Int} (ho : o.op = .binOp .andNot t x y u) (hx : aev e x = some (.d (.sc (.int k a)))) (hy : aev e y = some (.d (.sc (.int k b)))) : AYield P T e h o (.d (.sc (.int k (anK k a b)))) := zE _ fun w F ι ac E =>
 ⟨.int k (anK k a b), zQ rfl, fun w' => by
  simp only [execOp, ho, (zL (zm E hx)).1, (zL (zm E hy)).1]
  simp [eqGuard, binOp, Op.intBits, anK]⟩
end
theorem zdd {α : Type} {p : α → Bool} {l : List α} {k : Nat} (hk : k < l.length) (h : (l.take k).any p = false) (hx : p l[k] = false) : (l.take (k + 1)).any p = false := by
 rw [List.take_succ_eq_append_getElem hk, List.any_append, h]; simp [hx]
theorem zey {α : Type} (p : α → Bool) (l : List α) {k : Nat} (hk : k < l.length) : (l.take (k + 1)).all p = ((l.take k).all p && p l[k]) := by
 rw [List.take_succ_eq_append_getElem hk, List.all_append]; simp
theorem zkf {α : Type} {p : α → Bool} {l : List α} {k : Nat} (hk : k < l.length) (hx : p l[k] = true) : l.any p = true := List.any_eq_true.2 ⟨l[k], List.getElem_mem hk, hx⟩
attribute [local irreducible] AWp AOps AQ AYield AEff ACall AWk AAny AAt AThen AIn APost NoPanic
attribute [local irreducible] withB nameB noneB anK
set_option maxHeartbeats 16000000 in
theorem zdp (b : Bk) (l : List Rds) (may : Int) (typed : Bool) (hn : l.length ≤ 140737488355328) : ACall Tryz.prog 206 [bkA, .d (.sl (l.flatMap rdsD) l.length), .d (.sc (.int .u8 may)), boolA typed] (bkH b) (fun c h => c = .tup [boolA (redsP b may typed l).1, boolA (redsP b may typed l).2] ∧ h = bkH b) := by
 obtain ⟨nf, hnf⟩ : ∃ nf : Rds → Bool, (fun x : Rds => noneB b.o x.pol) = nf := ⟨_, rfl⟩
 have hnx : ∀ x : Rds, noneB b.o x.pol = nf x := fun x => by rw [← hnf]
 unfold redsP
 rw [hnf]
 refine zc za Tryz.func206 rfl Tryz.ntmps206 (congrArg Array.toList Tryz.results206) (by kernel_rfl) rfl ?_
 refine zF [(1, .d (.sl (l.flatMap rdsD) l.length)), (2, .d (.sc (.int .u8 may))), (3, boolA typed), (4, .ptr 4 0)] ((4, .var bkM) :: bkH b) ?_ ?_
 ·
  (first | refine ze ?_ | refine zg rfl mixed (by kernel_rfl) ?_)
  repeat' (first | ((first | apply q_K rfl | apply q_X rfl); (first | exact q_H | fail)) | refine q_d ?_ | refine q_a ?_ | refine q_b ?_ | refine q_e ?_ | refine q_f ?_ | refine q_g ?_ | ((fail_if_success (refine O_wt rfl ?_)); refine O_gs rfl rfl (fun _ => ?_) (fun _ => ?_)) | ((fail_if_success (refine Q_wt rfl ?_)); refine Q_gs rfl rfl (fun _ => ?_) (fun _ => ?_)) | refine zi ?_ | refine zk ?_ | refine q_j ?_ | fail)
  exact zq ⟨rfl, rfl, rfl, rfl, trivial⟩ ⟨rfl, kc1 _ _, kc1 _ _, kc1 _ _, kc1 _ _, kc1 _ _, trivial⟩
 repeat (first | refine q_Y ?_ | ((first | apply q_K rfl | apply q_X rfl); (exact q_H)) | refine q_U ?_)
 refine zw (fun k : Nat => [(1, .d (.sl (l.flatMap rdsD) l.length)), (2, .d (.sc (.int .u8 may))), (3, boolA typed), (4, .ptr 4 0), (9, boolA ((l.take k).all nf)), (13, .d (.sl (l.flatMap rdsD) l.length)), (14, intA (l.length : Int)), (15, intA (k : Int))]) (fun k => (4, .var bkM) :: bkH b) (fun k => k ≤ l.length ∧ (l.take k).any (redBad may typed) = false) (fun k => l.length - k) 0 ⟨Nat.zero_le _, rfl⟩ (q_S) ?_
 rintro k ⟨hk, ha⟩
 try dsimp only
 by_cases hkl : k < l.length
 ·have hw := zj zea l k 4 hkl (by decide)
  have hB := zkf (p := redBad may typed) hkl
  have hN := zdd (p := redBad may typed) hkl ha
  have hA := zey nf l hkl
  have hx := hnx l[k]
  obtain ⟨x, hxe⟩ : ∃ x, l[k] = x := ⟨_, rfl⟩
  rw [hxe] at hw hB hN hA hx
  obtain ⟨al, hal⟩ : ∃ a, (l.take k).all nf = a := ⟨_, rfl⟩
  rw [hal] at hA ⊢
  obtain ⟨nb, hnb⟩ : ∃ a, nf x = a := ⟨_, rfl⟩
  rw [hnb] at hA hx
  obtain ⟨bd, hbd⟩ : ∃ a, redBad may typed x = a := ⟨_, rfl⟩
  rw [hbd] at hB hN
  clear hxe hnx hnb
  obtain ⟨fr, met, ty, pol⟩ := x
  dsimp only at hx
  have h1 := zam met (-1) 16777216
  cases typed <;> (
   repeat' (first | refine zn ?_ | refine zp ?_ | refine ze ?_ | refine zg rfl mixed (by kernel_rfl) ?_ | ((first | apply q_K rfl | apply q_X rfl); (first | exact q_A | exact q_R (w := (by first | exact hw | rfl)) | exact q_B | (exact zhW rfl rfl rfl))) | refine zi ?_ | refine zk ?_ | refine q_j ?_ | refine q_k ?_ | refine q_d ?_ | refine q_a ?_ | refine q_b ?_ | refine q_e ?_ | refine q_f ?_ | refine q_g ?_ | ((fail_if_success (refine O_wt rfl ?_)); refine O_gs rfl rfl (fun _ => ?_) (fun _ => ?_)) | ((fail_if_success (refine Q_wt rfl ?_)); refine Q_gs rfl rfl (fun _ => ?_) (fun _ => ?_)) | refine A_ct rfl ?_ | refine A_cf rfl ?_ | refine zU rfl (fun _ => ?_) (fun _ => ?_) | refine zz ?_ | refine zA ?_ | refine zS ?_ | refine q_l ?_ | refine q_m ?_ | refine q_n ?_ | refine q_h ?_ | refine q_o ?_ | (first | refine q_O h1 ?_ | refine zbx rfl rfl rfl rfl rfl rfl ?_ | refine zbx rfl rfl rfl rfl rfl (kc1 _ _) ?_))
   all_goals first
    | (exact zt (h2 := bkH b) AWk.refl rfl ⟨kc1 _ _, kc1 _ _, kc1 _ _, kc1 _ _, kc1 _ _, trivial⟩ ⟨by rw [hB (by rw [← hbd]; simp only [redBad, redG, *, Bool.not_true, Bool.not_false, Bool.true_and, Bool.false_and, Bool.or_true, Bool.true_or, Bool.false_or, Bool.or_false, if_true, if_false, Bool.false_eq_true])]; rfl, rfl⟩)
    | (refine ⟨k + 1, ⟨by omega, hN (by rw [← hbd]; simp only [redBad, redG, *, Bool.not_true, Bool.not_false, Bool.true_and, Bool.false_and, Bool.or_true, Bool.true_or, Bool.false_or, Bool.or_false, if_true, if_false, Bool.false_eq_true])⟩, by omega, zq ⟨rfl, rfl, rfl, rfl, congrArg (fun b => some (boolA b)) ?_, rfl, rfl, rfl, trivial⟩ ⟨rfl, kc1 _ _, kc1 _ _, kc1 _ _, kc1 _ _, kc1 _ _, trivial⟩⟩; rw [hA]; simp only [*, Bool.true_and, Bool.false_and]))
 ·obtain rfl : k = l.length := by omega
  rw [List.take_length] at ha
  rw [List.take_length, ha]
  repeat (first | refine q_Y ?_ | ((first | apply q_K rfl | apply q_X rfl); (exact q_H)) | refine q_U ?_)
  exact zt (h2 := bkH b) AWk.refl rfl ⟨rfl, rfl, rfl, rfl, rfl, trivial⟩ ⟨rfl, rfl⟩
end Ab
end Go.Proofs.YtoahnbmedcjpeaaGreatDoor

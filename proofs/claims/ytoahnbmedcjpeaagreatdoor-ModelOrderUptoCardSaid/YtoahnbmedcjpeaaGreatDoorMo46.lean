/-
 Texts of a proof, one behind the other (part 47).
-/
import Derived.Test.YtoahnbmedcjpeaaGreatDoorMo3
import Derived.Test.YtoahnbmedcjpeaaGreatDoorMo38
import Derived.Test.YtoahnbmedcjpeaaGreatDoorMo40
import Derived.Test.YtoahnbmedcjpeaaGreatDoorMo43
import Derived.Test.YtoahnbmedcjpeaaGreatDoorMo44
import Derived.Test.YtoahnbmedcjpeaaGreatDoorMo45
set_option linter.unusedSimpArgs false
set_option linter.unusedVariables false
namespace Go.Proofs.YtoahnbmedcjpeaaGreatDoor.Ab
set_option maxRecDepth 100000
open Go.RowKit Go.Lib
attribute [local irreducible] AWp AOps AQ AYield AEff ACall AWk AAny AAt AThen AIn APost NoPanic
theorem wrapU (x : Int) : ∃ u : Nat, IntKind.u64.wrap x = (u : Int) ∧ u < 18446744073709551616 := by
 have h1 : IntKind.u64.wrap x = x % 18446744073709551616 := by simp [IntKind.wrap, IntKind.signed, IntKind.bits]
 have h2 := Int.emod_nonneg x (show (18446744073709551616 : Int) ≠ 0 by decide)
 have h3 := Int.emod_lt_of_pos x (show (0 : Int) < 18446744073709551616 by decide)
 exact ⟨(x % 18446744073709551616).toNat, by rw [h1]; omega, by omega⟩
theorem wrapUN {n : Nat} (h : n < 18446744073709551616) : IntKind.u64.wrap (n : Int) = (n : Int) := by
 have h1 : IntKind.u64.wrap (n : Int) = (n : Int) % 18446744073709551616 := by simp [IntKind.wrap, IntKind.signed, IntKind.bits]
 rw [h1, Int.emod_eq_of_lt (by omega) (by omega)]
theorem zig (i s n : Nat) : ((i : Int) + (s : Int)).tmod (n : Int) = (((i + s) % n : Nat) : Int) := by
 rw [← Int.natCast_add, Int.ofNat_tmod]
section
variable {P : Program} {T : List Nat} {e : Env} {h : Heap} {o : Oper} {tab : TTab}
theorem zmJ {t u : TypeId} {x y : Operand} {a b : Nat} (ho : o.op = .binOp .rem t x y u) (hx : aev e x = some (.d (.sc (.int .u64 (a : Int))))) (hy : aev e y = some (.d (.sc (.int .u64 (b : Int))))) (hb : 0 < b) (hm : b < 18446744073709551616) :
  AYield P T e h o (.d (.sc (.int .u64 ((a % b : Nat) : Int)))) := z7 _ fun w F ι ac E =>
 ⟨.int .u64 ((a % b : Nat) : Int), zav rfl, fun w' => by
  simp only [execOp, ho, (zaj (zy E hx)).1, (zaj (zy E hy)).1]
  have h1 : ((a : Int)).tmod (b : Int) = ((a % b : Nat) : Int) := by rw [Int.ofNat_tmod]
  have h3 := Nat.mod_lt a hb
  obtain ⟨q, hq⟩ : ∃ q, a % b = q := ⟨_, rfl⟩
  rw [hq] at h1 h3 ⊢
  have h2 : IntKind.u64.wrap (q : Int) = (q : Int) := wrapUN (by omega)
  have h4 : ((b : Int)) ≠ 0 := by omega
  have hb0 : b ≠ 0 := by omega
  simp [eqGuard, binOp, Op.intDiv, h4, h1, h2, hb0]⟩
theorem zgS {t t' : TypeId} {x : Operand} {k k' : IntKind} {b r : Int} {te te' : TE} (TO : TabOk P tab) (ho : o.op = .convert t t' x) (hx : aev e x = some (.d (.sc (.int k b)))) (h1 : tlook tab t = some te) (h2 : tlook tab t' = some te') (h3 : te'.sh = .it k') (hr : k'.wrap b = r) : AYield P T e h o (.d (.sc (.int k' r))) := zgO TO ho hx h1 h2 h3 hr
theorem znl {t u : TypeId} {x y : Operand} {a b r : Int} (ho : o.op = .binOp .rem t x y u) (hx : aev e x = some (.d (.sc (.int .i64 a)))) (hy : aev e y = some (.d (.sc (.int .i64 b)))) (hb : b ≠ 0) (hr : a.tmod b = r) : AYield P T e h o (.d (.sc (.int .i64 r))) := z7 _ fun w F ι ac E =>
 ⟨.int .i64 r, zav rfl, fun w' => by
  simp only [execOp, ho, (zaj (zy E hx)).1, (zaj (zy E hy)).1]
  simp [eqGuard, binOp, Op.intDiv, hb, ← hr]⟩
end
theorem zfL (a b : Int) : eqCells [.int .i64 a, .int .i64 b] [.int .i64 a, .int .i64 b] = some true := by simp [eqCells, eqV]
theorem zh7 {d : Dvc} (h : OkF d) : OkF (aboutL d) := by
 have k := h.ok
 refine ⟨⟨k.kd, fun x hx => k.ifs x (List.mem_reverse.1 hx), fun x hx => k.sts x (List.mem_reverse.1 hx), fun x hx => k.fils x (List.mem_reverse.1 hx), fun x hx => k.pls x (List.mem_reverse.1 hx), k.cls, fun x hx => k.pols x (List.mem_reverse.1 hx), k.osp, k.bgp, ?_, ?_, ?_, k.b5, ?_, ?_, k.b8, ?_, k.b10, k.b11, fun x hx => k.rok x (List.mem_reverse.1 hx), k.nok⟩, ?_, ?_, ?_, ?_, h.n8, ?_⟩
 ·show Bd d.vrfs.reverse.length 16; rw [List.length_reverse]; exact k.b2
 ·show Bd d.ifs.reverse.length 120; rw [List.length_reverse]; exact k.b3
 ·show Bd d.fils.reverse.length 40; rw [List.length_reverse]; exact k.b4
 ·show Bd d.sts.reverse.length 56; rw [List.length_reverse]; exact k.b6
 ·show Bd d.pls.reverse.length 40; rw [List.length_reverse]; exact k.b7
 ·show Bd d.pols.reverse.length 48; rw [List.length_reverse]; exact k.b9
 ·show d.ifs.reverse.length ≤ _; rw [List.length_reverse]; exact h.n3
 ·show d.fils.reverse.length ≤ _; rw [List.length_reverse]; exact h.n4
 ·show d.sts.reverse.length ≤ _; rw [List.length_reverse]; exact h.n6
 ·show d.pls.reverse.length ≤ _; rw [List.length_reverse]; exact h.n7
 ·show d.pols.reverse.length ≤ _; rw [List.length_reverse]; exact h.n9
theorem zhp {l : List Dvc} {s : Nat} (h : ∀ d ∈ l, OkF d) : ∀ d ∈ turnL l s, OkF d := fun d hd => by
 obtain ⟨x, hx, rfl⟩ := List.mem_map.1 hd
 exact zh7 (h x ((zbc l s).mem_iff.1 hx))
theorem zcy (l : List Dvc) (s : Nat) : (turnL l s).length = l.length := by unfold turnL; rw [List.length_map, zft]
theorem zgb {l : List Dvc} {s i : Nat} (hs : s < l.length) (hi : i < l.length) : (turnL l s).take (i + 1) = (turnL l s).take i ++ [aboutL (l[(i + s) % l.length]'(Nat.mod_lt _ (by omega)))] := by
 rw [List.take_succ_eq_append_getElem (by rw [zcy]; exact hi)]
 congr 2
 unfold turnL
 rw [List.getElem_map, zkb l hs hi]
theorem zij {l : List Dvc} (h : ∀ d ∈ l, OkF d) : ∀ d ∈ srtN dnm (l.map formL), OkF d := fun d hd => by
 obtain ⟨x, hx, rfl⟩ := List.mem_map.1 ((zF _ _).mem_iff.1 hd)
 exact zhL (h x hx)
theorem zho {l : List Dvc} (s : Nat) : (∃ (k k' : Nat) (e e' : Int), e ≠ 0 ∧ e' ≠ 0 ∧ snapC l = .tup [.d (.sc (.slice none 0 0)), intA (k : Int), intA e] ∧ snapC (turnL l s) = .tup [.d (.sc (.slice none 0 0)), intA (k' : Int), intA e']) ∨
  (∃ a : List Dvc, snapC l = .tup [dvsA a, intA 0, intA 0] ∧ snapC (turnL l s) = .tup [dvsA a, intA 0, intA 0] ∧ snapC a = .tup [dvsA a, intA 0, intA 0] ∧ SnapR a ∧ a.length = l.length ∧ ((∀ d ∈ l, OkF d) → ∀ d ∈ a, OkF d)) := by
 by_cases h : SnOk l
 ·refine .inr ⟨srtN dnm (l.map formL), zc9 h, ?_, ?_, zfj h, by rw [(zF _ _).length_eq, List.length_map], zij⟩
  ·have e := zgc h s
   rw [zbQ h, zbQ ((zc7 l s).2 h)] at e
   rw [zc9 ((zc7 l s).2 h), (Prod.mk.inj e).1]
  ·have e := zfk h
   rw [zbQ (zb1 h)] at e
   rw [zc9 (zb1 h), (Prod.mk.inj e).1]
 ·obtain ⟨k, e, h1, h2⟩ := zex h
  obtain ⟨k', e', h3, h4⟩ := zex (l := turnL l s) fun h5 => h ((zc7 l s).1 h5)
  exact .inl ⟨k, k', e, e', h1, h3, h2, h4⟩
set_option maxHeartbeats 64000000 in
theorem zeX (l r : List Dvc) (n : Int) (hn : okI n) (h12 : l.length ≤ 12) (hr : r ≠ [] → l.length = 12) (hlr : l.length + r.length ≤ 1048576) (hf : ∀ d ∈ l, OkF d) :
  ACall Tryz.prog 4 [.d (.sl (l.flatMap dvcD ++ r.flatMap dvcD) (l.length + r.length)), intA n] [] (Just (boolA true)) := by
 have haw := zh4
 obtain ⟨u, hu, hu2⟩ := wrapU n
 refine zb za Tryz.func4 rfl Tryz.ntmps4 (congrArg Array.toList Tryz.results4) (by kernel_rfl) rfl ?_
 refine zt ?_
 (first | refine zi ?_ | refine zl rfl mixed (by kernel_rfl) ?_)
 repeat' (first | ((first | apply q_K rfl | apply q_X rfl); (first | exact q_H | fail)) | refine q_d ?_ | refine q_a ?_ | refine q_b ?_ | refine q_e ?_ | refine q_f ?_ | refine q_g ?_ | ((fail_if_success (refine O_wt rfl ?_)); refine O_gs rfl rfl (fun _ => ?_) (fun _ => ?_)) | ((fail_if_success (refine Q_wt rfl ?_)); refine Q_gs rfl rfl (fun _ => ?_) (fun _ => ?_)) | refine zo ?_ | refine zq ?_ | refine q_j ?_ | fail)
 refine zK [(0, dvsA l), (1, intA n), (4, boolA false)] [] ?_ ?_
 ·cases r with
  | nil =>
   rw [List.flatMap_nil, List.append_nil, List.length_nil, Nat.add_zero]
   repeat (first | refine q_Z ?_ | ((first | apply q_K rfl | apply q_X rfl); (exact q_H)) | refine q_U ?_)
   exact q_S
  | cons y r =>
   have h12e := hr (by simp)
   have hl2 : (12 : Int) = (l.length : Int) := by omega
   rw [List.length_cons] at hlr ⊢
   repeat (first | refine q_Z ?_ | ((first | apply q_K rfl | apply q_X rfl); (first | exact q_H | (exact zjG za rfl rfl rfl rfl rfl hl2 (by omega)))) | refine q_U ?_)
   refine AWk.trans (zaK (t := 0) rfl zj9) ?_
   exact q_S
 clear hr hlr
 refine zt ?_
 (first | refine zi ?_ | refine zl rfl mixed (by kernel_rfl) ?_)
 repeat' (first | ((first | apply q_K rfl | apply q_X rfl); (first | exact q_H | fail)) | refine q_d ?_ | refine q_a ?_ | refine q_b ?_ | refine q_e ?_ | refine q_f ?_ | refine q_g ?_ | ((fail_if_success (refine O_wt rfl ?_)); refine O_gs rfl rfl (fun _ => ?_) (fun _ => ?_)) | ((fail_if_success (refine Q_wt rfl ?_)); refine Q_gs rfl rfl (fun _ => ?_) (fun _ => ?_)) | refine zo ?_ | refine zq ?_ | refine q_j ?_ | fail)
 refine zd (zaF 33 12 (t := 5) (id := 5) rfl rfl) ?_
 obtain ⟨s, hs⟩ : ∃ s, u % l.length = s := ⟨_, rfl⟩
 repeat (first | refine q_Z ?_ | ((first | apply q_K rfl | apply q_X rfl); (exact q_H)) | refine q_U ?_)
 refine zw (fun i : Nat => [(0, dvsA l), (1, intA n), (4, boolA false), (5, .row 5), (6, intA (i : Int))]) (fun i => [(5, gR 33 12 dvcD ((turnL l s).take i))]) (fun i => i ≤ l.length) (fun i => l.length - i) 0 (Nat.zero_le _) (q_S) ?_
 intro i hil
 try dsimp only
 by_cases hi : i < l.length
 ·have hw := zj zaL l i 12 hi (by decide)
  obtain ⟨lg, hlg⟩ := zhH l[i] (hf _ (List.getElem_mem hi)).ok
  cases lg with
  | true =>
   repeat (first | refine q_Z ?_ | ((first | apply q_K rfl | apply q_X rfl); (first | exact q_A | exact q_R (w := (by first | exact hw | rfl)) | exact q_B | (exact q_I i hi))) | refine q_U ?_ | (first | refine q_O hlg ?_ | refine q_O haw ?_))
   exact zA rfl ⟨rfl, rfl⟩
  | false =>
   have hp : 0 < l.length := by omega
   have hsl : s < l.length := by rw [← hs]; exact Nat.mod_lt _ hp
   have hm : (i + s) % l.length < l.length := Nat.mod_lt _ hp
   have hlu : IntKind.u64.wrap (l.length : Int) = (l.length : Int) := wrapUN (by omega)
   have hsi : IntKind.i64.wrap (((u % l.length : Nat)) : Int) = (s : Int) := by rw [hs]; exact zbi ⟨by omega, by omega⟩
   have hmo := zig i s l.length
   have hw2 := zj zaL l ((i + s) % l.length) 12 hm (by decide)
   have hab := zk0 l[(i + s) % l.length] (hf _ (List.getElem_mem hm)).ok (hf _ (List.getElem_mem hm))
   have eT := zgb hsl hi
   have eL : ((turnL l s).take i).length = i := by rw [List.length_take, zcy]; omega
   repeat (first | refine q_Z ?_ | ((first | apply q_K rfl | apply q_X rfl); (first | exact q_A | exact q_R (w := (by first | exact hw | exact hw2 | rfl)) | exact q_B | (first | exact q_I i hi | exact zb6 (j := (i + s) % l.length) za rfl rfl rfl rfl rfl rfl hm | exact zgS za rfl rfl rfl rfl rfl hu | exact zgS za rfl rfl rfl rfl rfl hlu | exact zgS za rfl rfl rfl rfl rfl hsi | exact zmJ rfl rfl rfl hp (by omega) | exact znl rfl rfl rfl (by omega) hmo))) | refine q_U ?_ | (first | refine q_O hlg ?_ | refine q_O hab ?_ | refine zac (rid := 5) za rfl rfl rfl rfl rfl rfl rfl rfl rfl rfl rfl rfl (Src.row rfl) rfl (by omega) ?_))
   refine ⟨i + 1, by omega, by omega, ?_⟩
   try dsimp only
   rw [eT]
   exact zr ⟨rfl, rfl, rfl, rfl, rfl, trivial⟩ ⟨zag (by simp [eL]) (by rw [List.flatMap_append]; simp [dvcD]) rfl, trivial⟩
 obtain rfl : i = l.length := by omega
 rw [show (turnL l s).take l.length = turnL l s from List.take_of_length_le (by rw [zcy]; omega)]
 refine zd (zB (id := 5) rfl) ?_
 have hS1 := zcW l hf (by omega)
 have hS2 := zcW (turnL l s) (zhp hf) (by rw [zcy]; omega)
 rcases zho (l := l) s with ⟨k, k', e, e', he, he', h1, h2⟩ | ⟨a, h1, h2, h3, hR, hal, hoka⟩
 ·rw [h1] at hS1
  rw [h2] at hS2
  have hA := zlr [] (fun _ h => by cases h) (by decide)
  repeat ((fail_if_success (refine stopR 13 ?_)); first
   | refine zt ?_
   | refine zz ?_
   | refine zi ?_
   | ((first | apply q_K rfl | apply q_X rfl); (first | exact q_H | fail))
   | refine zo ?_
   | refine zq ?_
   | refine q_j ?_
   | refine q_k ?_
   | refine q_a ?_
   | refine q_b ?_
   | refine A_ct rfl ?_
   | refine A_cf rfl ?_
   | refine zM ?_
   | refine zW ?_
   | refine q_l ?_
   | refine q_n ?_
   | refine q_h ?_
   | (first | refine q_O hS1 ?_ | refine q_O hS2 ?_))
  refine zd (zaK (t := 8) rfl zeP) ?_
  refine zd (zaK (t := 11) rfl zeP) ?_
  repeat (first | refine q_Z ?_ | ((first | apply q_K rfl | apply q_X rfl); (first | exact q_H | (first | exact zH za rfl rfl rfl rfl))) | refine q_U ?_ | (first | refine q_O haw ?_ | refine q_O hA ?_))
  exact zA rfl ⟨rfl, rfl⟩
 have hok := hoka hf
 have hS3 := zcW a hok (by omega)
 rw [h1] at hS1
 rw [h2] at hS2
 rw [h3] at hS3
 clear h1 h2 h3 hoka
 have hA := zlr a (fun d hd => (hok d hd).ok) (by omega)
 repeat ((fail_if_success (refine stopR 13 ?_)); first
  | refine zt ?_
  | refine zz ?_
  | refine zi ?_
  | ((first | apply q_K rfl | apply q_X rfl); (first | exact q_H | fail))
  | refine zo ?_
  | refine zq ?_
  | refine q_j ?_
  | refine q_k ?_
  | refine q_a ?_
  | refine q_b ?_
  | refine A_ct rfl ?_
  | refine A_cf rfl ?_
  | refine zM ?_
  | refine zW ?_
  | refine q_l ?_
  | refine q_n ?_
  | refine q_h ?_
  | (first | refine q_O hS1 ?_ | refine q_O hS2 ?_))
 repeat (first | refine q_Z ?_ | ((first | apply q_K rfl | apply q_X rfl); (first | exact q_H | (first | exact zH za rfl rfl rfl rfl))) | refine q_U ?_ | (first | refine q_O haw ?_ | refine q_O hA ?_ | refine q_O hS3 ?_))
 refine zw (fun i : Nat => [(8, dvsA a), (17, intA (i : Int))]) (fun _ => []) (fun i => i ≤ a.length) (fun i => a.length - i) 0 (Nat.zero_le _) (q_S) ?_
 clear hS1 hS2 hS3 hA hu
 intro i hil
 try dsimp only
 by_cases hi : i < a.length
 ·have hw := zx zaL a i 0 1 hi (by decide)
  have hw3 := zx zaL a i 3 1 hi (by decide)
  have hin := (hok _ (List.getElem_mem hi)).n3
  repeat ((fail_if_success (refine stopR 23 ?_)); first
   | refine zt ?_
   | refine zz ?_
   | refine zi ?_
   | ((first | apply q_K rfl | apply q_X rfl); (first | exact q_H | fail))
   | refine zo ?_
   | refine zq ?_
   | refine q_j ?_
   | refine q_k ?_
   | refine q_a ?_
   | refine q_b ?_
   | refine A_ct rfl ?_
   | refine A_cf rfl ?_
   | refine zM ?_
   | refine zW ?_
   | refine q_l ?_
   | refine q_n ?_
   | refine q_h ?_
   | fail)
  refine zK [(8, dvsA a), (17, intA (i : Int)), (133, boolA false)] [] ?_ ?_
  ·by_cases h0 : i = 0
   ·
    (first | refine zi ?_ | refine zl rfl mixed (by kernel_rfl) ?_)
    repeat' (first | ((first | apply q_K rfl | apply q_X rfl); (first | exact q_H | fail)) | refine q_d ?_ | refine q_a ?_ | refine q_b ?_ | refine q_e ?_ | refine q_f ?_ | refine q_g ?_ | ((fail_if_success (refine O_wt rfl ?_)); refine O_gs rfl rfl (fun _ => ?_) (fun _ => ?_)) | ((fail_if_success (refine Q_wt rfl ?_)); refine Q_gs rfl rfl (fun _ => ?_) (fun _ => ?_)) | refine zo ?_ | refine zq ?_ | refine q_j ?_ | fail)
    exact q_S
   ·have hwp := zx zaL a (i - 1) 0 1 (by omega) (by decide)
    have hge : decide (0 ≤ compareBytes a[i - 1].nm a[i].nm) = false := by
     have h := hR.r (i - 1) (by omega)
     simp only [show i - 1 + 1 = i from by omega] at h
     exact decide_eq_false (by omega)
    (first | refine zi ?_ | refine zl rfl mixed (by kernel_rfl) ?_)
    repeat' (first | ((first | apply q_K rfl | apply q_X rfl); (first | exact q_A | exact q_R (w := (by first | exact hwp | exact hw | rfl)) | exact q_B | (first | exact zb6 (j := i - 1) za rfl rfl rfl rfl rfl rfl (by omega) | exact q_I i hi | exact R_sF rfl rfl rfl rfl hge))) | refine q_d ?_ | refine q_a ?_ | refine q_b ?_ | refine q_e ?_ | refine q_f ?_ | refine q_g ?_ | ((fail_if_success (refine O_wt rfl ?_)); refine O_gs rfl rfl (fun _ => ?_) (fun _ => ?_)) | ((fail_if_success (refine Q_wt rfl ?_)); refine Q_gs rfl rfl (fun _ => ?_) (fun _ => ?_)) | refine zo ?_ | refine zq ?_ | refine q_j ?_ | fail)
    exact q_S
  repeat (first | refine q_Z ?_ | ((first | apply q_K rfl | apply q_X rfl); (exact q_H)) | refine q_U ?_)
  refine zw (fun k : Nat => [(8, dvsA a), (17, intA (i : Int)), (18, intA (k : Int))]) (fun _ => []) (fun k => k ≤ a[i].ifs.length) (fun k => a[i].ifs.length - k) 0 (Nat.zero_le _) (q_S) ?_
  intro k hkl
  try dsimp only
  by_cases hk : k < a[i].ifs.length
  ·have hwk := zx zao a[i].ifs k 0 1 hk (by decide)
   have hfd := zmq a a[i].nm a[i].ifs[k].nm i k hi (zec dnm hR.n hi) (zec (fun x : Ifx => x.nm) (hR.i _ (List.getElem_mem hi)) hk) (by omega) (by omega)
   repeat (first | refine q_Z ?_ | ((first | apply q_K rfl | apply q_X rfl); (first | exact q_A | exact q_R (w := (by first | exact hw3 | rfl)) | exact q_B | (exact q_I i hi))) | refine q_U ?_)
   refine zad [19] mixed ?_
   apply zm (i := 0) rfl (by kernel_rfl) (by kernel_rfl) (by kernel_rfl) (by repeat (first | exact zg | exact zn | apply zf | apply zu)) rfl rfl rfl
   exact q_1
   apply zm (i := 1) rfl (by kernel_rfl) (by kernel_rfl) (by kernel_rfl) (by repeat (first | exact zg | exact zn | apply zf | apply zu)) rfl rfl rfl
   exact q_1
   apply zm (i := 2) rfl (by kernel_rfl) (by kernel_rfl) (by kernel_rfl) (by repeat (first | exact zg | exact zn | apply zf | apply zu)) rfl rfl rfl
   exact q_1
   apply zm (i := 3) rfl (by kernel_rfl) (by kernel_rfl) (by kernel_rfl) (by repeat (first | exact zg | exact zn | apply zf | apply zu)) rfl rfl rfl
   exact q_I i hi
   apply zm (i := 4) rfl (by kernel_rfl) (by kernel_rfl) (by kernel_rfl) (by repeat (first | exact zg | exact zn | apply zf | apply zu)) rfl rfl rfl
   exact q_4
   apply zm (i := 5) rfl (by kernel_rfl) (by kernel_rfl) (by kernel_rfl) (by repeat (first | exact zg | exact zn | apply zf | apply zu)) rfl rfl rfl
   exact q_R (w := hw)
   apply zm (i := 6) rfl (by kernel_rfl) (by kernel_rfl) (by kernel_rfl) (by repeat (first | exact zg | exact zn | apply zf | apply zu)) rfl rfl rfl
   exact q_1
   apply zm (i := 7) rfl (by kernel_rfl) (by kernel_rfl) (by kernel_rfl) (by repeat (first | exact zg | exact zn | apply zf | apply zu)) rfl rfl rfl
   exact q_1
   apply zm (i := 8) rfl (by kernel_rfl) (by kernel_rfl) (by kernel_rfl) (by repeat (first | exact zg | exact zn | apply zf | apply zu)) rfl rfl rfl
   exact q_I i hi
   apply zm (i := 9) rfl (by kernel_rfl) (by kernel_rfl) (by kernel_rfl) (by repeat (first | exact zg | exact zn | apply zf | apply zu)) rfl rfl rfl
   exact q_4
   apply zm (i := 10) rfl (by kernel_rfl) (by kernel_rfl) (by kernel_rfl) (by repeat (first | exact zg | exact zn | apply zf | apply zu)) rfl rfl rfl
   exact q_R (w := hw3)
   apply zm (i := 11) rfl (by kernel_rfl) (by kernel_rfl) (by kernel_rfl) (by repeat (first | exact zg | exact zn | apply zf | apply zu)) rfl rfl rfl
   exact q_1
   apply zm (i := 12) rfl (by kernel_rfl) (by kernel_rfl) (by kernel_rfl) (by repeat (first | exact zg | exact zn | apply zf | apply zu)) rfl rfl rfl
   exact q_I k hk
   apply zm (i := 13) rfl (by kernel_rfl) (by kernel_rfl) (by kernel_rfl) (by repeat (first | exact zg | exact zn | apply zf | apply zu)) rfl rfl rfl
   exact q_4
   apply zm (i := 14) rfl (by kernel_rfl) (by kernel_rfl) (by kernel_rfl) (by repeat (first | exact zg | exact zn | apply zf | apply zu)) rfl rfl rfl
   exact q_R (w := hwk)
   refine zal (j := 15) (k := 19) (by kernel_rfl) ?_ ?_
   ·refine zcv rfl rfl rfl rfl rfl rfl hfd (fun _ => rfl) ?_
    apply zm (i := 16) rfl (by kernel_rfl) (by kernel_rfl) (by kernel_rfl) (by repeat (first | exact zg | exact zn | apply zf | apply zu)) rfl rfl rfl
    exact q_1
    apply zm (i := 17) rfl (by kernel_rfl) (by kernel_rfl) (by kernel_rfl) (by repeat (first | exact zg | exact zn | apply zf | apply zu)) rfl rfl rfl
    exact q_14
    apply zm (i := 18) rfl (by kernel_rfl) (by kernel_rfl) (by kernel_rfl) (by repeat (first | exact zg | exact zn | apply zf | apply zu)) rfl rfl rfl
    exact q_14
    refine ze (j := 19) (by kernel_rfl) ?_
    refine zaa za rfl rfl rfl rfl rfl rfl rfl ?_
    refine ze (j := 20) (by kernel_rfl) ?_
    refine zD za rfl rfl rfl rfl rfl rfl rfl rfl rfl rfl rfl rfl rfl ?_
    apply zm (i := 21) rfl (by kernel_rfl) (by kernel_rfl) (by kernel_rfl) (by repeat (first | exact zg | exact zn | apply zf | apply zu)) rfl rfl rfl
    exact q_2
    refine zQ (by kernel_rfl) ?_
    repeat (first | refine q_Z ?_ | ((first | apply q_K rfl | apply q_X rfl); (first | exact q_H | (exact Y_eq za zO rfl rfl rfl rfl rfl rfl rfl rfl rfl (by kernel_rfl) (zfL _ _) rfl))) | refine q_U ?_)
    exact ⟨k + 1, by omega, by omega, q_S⟩
   ·refine zaa za rfl rfl rfl rfl rfl rfl rfl ?_
    refine ze (j := 15) (by kernel_rfl) ?_
    refine zcv rfl rfl rfl rfl rfl rfl hfd (fun _ => rfl) ?_
    apply zm (i := 16) rfl (by kernel_rfl) (by kernel_rfl) (by kernel_rfl) (by repeat (first | exact zg | exact zn | apply zf | apply zu)) rfl rfl rfl
    exact q_1
    apply zm (i := 17) rfl (by kernel_rfl) (by kernel_rfl) (by kernel_rfl) (by repeat (first | exact zg | exact zn | apply zf | apply zu)) rfl rfl rfl
    exact q_14
    apply zm (i := 18) rfl (by kernel_rfl) (by kernel_rfl) (by kernel_rfl) (by repeat (first | exact zg | exact zn | apply zf | apply zu)) rfl rfl rfl
    exact q_14
    refine ze (j := 20) (by kernel_rfl) ?_
    refine zD za rfl rfl rfl rfl rfl rfl rfl rfl rfl rfl rfl rfl rfl ?_
    apply zm (i := 21) rfl (by kernel_rfl) (by kernel_rfl) (by kernel_rfl) (by repeat (first | exact zg | exact zn | apply zf | apply zu)) rfl rfl rfl
    exact q_2
    refine zQ (by kernel_rfl) ?_
    repeat (first | refine q_Z ?_ | ((first | apply q_K rfl | apply q_X rfl); (first | exact q_H | (exact Y_eq za zO rfl rfl rfl rfl rfl rfl rfl rfl rfl (by kernel_rfl) (zfL _ _) rfl))) | refine q_U ?_)
    exact ⟨k + 1, by omega, by omega, q_S⟩
  ·
   repeat (first | refine q_Z ?_ | ((first | apply q_K rfl | apply q_X rfl); (first | exact q_A | exact q_R (w := (by first | exact hw3 | rfl)) | exact q_B | (exact q_I i hi))) | refine q_U ?_)
   exact ⟨i + 1, by omega, by omega, q_S⟩
 ·
  repeat (first | refine q_Z ?_ | ((first | apply q_K rfl | apply q_X rfl); (exact q_H)) | refine q_U ?_)
  exact zA rfl ⟨rfl, rfl⟩
end Go.Proofs.YtoahnbmedcjpeaaGreatDoor.Ab

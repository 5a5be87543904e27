/-
 Texts of a proof, one behind the other (part 41).
-/
import Derived.Laws.BytesString
import Derived.Test.YtoahnbmedcjpeaaGreatDoorMn2
import Derived.Test.YtoahnbmedcjpeaaGreatDoorMn3
import Derived.Test.YtoahnbmedcjpeaaGreatDoorMn19
import Derived.Test.YtoahnbmedcjpeaaGreatDoorMn38
import Derived.Test.YtoahnbmedcjpeaaGreatDoorMn39
set_option linter.unusedSimpArgs false
set_option linter.unusedVariables false
namespace Go.Proofs.YtoahnbmedcjpeaaGreatDoor.Ab
set_option maxRecDepth 100000
open Go.RowKit Go.Lib
def nmI (a : UInt8) (i : Nat) : List UInt8 := [a, UInt8.ofNat (97 + i / 26), UInt8.ofNat (97 + i % 26)]
def ifN (s : List UInt8) : Ifx := ⟨s, [], 0, 0, false, [], [], 0, -1, 1, false⟩
def dvN (l : List Ifx) : Dvc := ⟨[97], 1, [], l, [], [], [], [], [], [], [], []⟩
def dvK (i : Nat) : Dvc := ⟨nmI 97 i, 2, [], [], [], [], [], [], [], [], [], []⟩
def dvX (s : List UInt8) : Dvc := ⟨s, 3, [], [], [], [], [], [], [], [], [], []⟩
def ifs64 : List Ifx := (List.range 64).map fun i => ifN (nmI 101 i)
def ifs65 : List Ifx := ifs64 ++ [ifN [102]]
def dvs32 : List Dvc := (List.range 32).map dvK
def dvs33 : List Dvc := (List.range 33).map dvK
theorem chk64 : checkL (dvN ifs64) = ([], 0) := by decide +kernel
theorem chk65 : checkL (dvN ifs65) = ([105, 102, 97, 99, 101, 32, 54, 52], 121) := by decide +kernel
theorem chkX : checkL (dvX [97]) = ([107, 105, 110, 100], 121) := by decide +kernel
theorem chkY : checkL (dvX [49, 97]) = ([110, 97, 109, 101], 121) := by decide +kernel
theorem bd0 {n : Nat} : Bd 0 n := by unfold Bd; rw [Nat.zero_mul]; exact Nat.zero_le _
theorem zjS {l : List Ifx} (h : ∀ x ∈ l, ∃ s, x = ifN s) : ∀ x ∈ l, x.ok := fun x hx => by
 obtain ⟨s, rfl⟩ := h x hx
 exact ⟨(show okU 0 from ⟨by decide, by decide⟩), (show okI 0 from ⟨by decide, by decide⟩)⟩
theorem zeS (nm : List UInt8) {kd : Int} (hk : okC kd) {l : List Ifx} (h : ∀ x ∈ l, ∃ s, x = ifN s) (hl : l.length ≤ 65) : (⟨nm, kd, [], l, [], [], [], [], [], [], [], []⟩ : Dvc).ok := ⟨hk, zjS h, zay, zay, zay, zay, zay, zay, zay, bd0, (by show l.length * 120 ≤ 140737488351232; omega), bd0, bd0, bd0, bd0, bd0, bd0, bd0, bd0, zay, zay⟩
theorem zhf {l : List Ifx} (h : ∀ x ∈ l, ∃ s, x = ifN s) (hl : l.length ≤ 65) : (dvN l).ok := zeS _ ⟨by decide, by decide⟩ h hl
theorem zj3 (i : Nat) : (dvK i).ok := zeS _ ⟨by decide, by decide⟩ zay (by decide)
theorem zhe (s : List UInt8) : (dvX s).ok := zeS _ ⟨by decide, by decide⟩ zay (by decide)
theorem zfy (i : Nat) : OkF (dvK i) := ⟨zj3 i, by show 0 ≤ _; omega, by show 0 ≤ _; omega, by show 0 ≤ _; omega, by show 0 ≤ _; omega, by show 0 ≤ _; omega, by show 0 ≤ _; omega⟩
theorem chk32 : ∀ d ∈ dvs32, (checkL d).2 = 0 := by decide +kernel
theorem nms32 : (dvs32.map dnm).Nodup := by decide +kernel
theorem len32 : dvs32.length = 32 := rfl
theorem len33 : dvs33.length = 33 := rfl
theorem zhd : dvs33 = dvs32 ++ [dvK 32] := by unfold dvs33 dvs32; rw [List.range_succ (n := 32), List.map_append]; rfl
theorem snOk32 : SnOk dvs32 := by
 have e : ∀ {β : Type} (f : Dvc → List β), (∀ i, f (dvK i) = []) → dvs32.flatMap f = [] := fun f h => by
  rw [List.flatMap_eq_nil_iff]
  intro d hd
  obtain ⟨i, _, rfl⟩ := List.mem_map.1 hd
  exact h i
 refine ⟨by rw [len32]; decide, chk32, ⟨nms32, ?_, ?_, ?_⟩⟩
 ·rw [e alvL fun i => rfl]; exact List.nodup_nil
 ·rw [e idsO fun i => rfl]; exact List.nodup_nil
 ·rw [e idsB fun i => rfl]; exact List.nodup_nil
theorem snOk0 : SnOk [] := ⟨by decide, zay, ⟨List.nodup_nil, List.nodup_nil, List.nodup_nil, List.nodup_nil⟩⟩
theorem snap0 : snapC [] = .tup [.d (.sl [] 0), intA 0, intA 0] := by
 rw [zcR snOk0, show srtN dnm (([] : List Dvc).map formL) = [] from by unfold srtN; rw [List.map_nil, St.stS]]
 rfl
theorem zfk {P : Program} {f : FuncId} {Q : AVal → Heap → Prop} (H : ACall P f [dvsA []] [] Q) : ACall P f [.d (.sc (.slice none 0 0))] [] Q :=
 ⟨H.1, fun Pm F w pin ι us w0 hH hA => H.2 Pm F w pin ι us w0 hH ⟨hA.1, fun i c u h1 h2 => by
  match i, h1 with
  | 0, h1 =>
   cases h1
   exact zfm _ _ _ _ (hA.2 0 _ u rfl h2)⟩⟩
theorem zbB {m : Nat} (h : m < 256) : IntKind.u8.wrap (m : Int) = (m : Int) := by
 have h1 : IntKind.u8.wrap (m : Int) = (m : Int) % 256 := by simp [IntKind.wrap, IntKind.signed, IntKind.bits]
 rw [h1, Int.emod_eq_of_lt (by omega) (by omega)]
theorem zd0 (i n : Nat) : ((i : Nat) : Int).tmod (n : Int) = ((i % n : Nat) : Int) := by rw [Int.ofNat_tmod]
section
variable {P : Program} {nt : Nat} {Q : Post} {e : Env} {h : Heap} {ops : Array Oper} {o : Oper} {rest : List Oper} {T : List Nat} {tab : TTab}
theorem zdU {t t' : TypeId} {x : Operand} {k k' : IntKind} {b r : Int} {te te' : TE} (TO : TabOk P tab) (ho : o.op = .convert t t' x) (hx : aev e x = some (.d (.sc (.int k b)))) (h1 : tlook tab t = some te) (h2 : tlook tab t' = some te') (h3 : te'.sh = .it k') (hr : k'.wrap b = r) : AYield P T e h o (.d (.sc (.int k' r))) := zfg TO ho hx h1 h2 h3 hr
theorem zji {t u : TypeId} {x y : Operand} {a b r : Int} (ho : o.op = .binOp .rem t x y u) (hx : aev e x = some (.d (.sc (.int .i64 a)))) (hy : aev e y = some (.d (.sc (.int .i64 b)))) (hb : b ≠ 0) (hr : a.tmod b = r) : AYield P T e h o (.d (.sc (.int .i64 r))) := zE _ fun w F ι ac E =>
 ⟨.int .i64 r, zQ rfl, fun w' => by
  simp only [execOp, ho, (zL (zm E hx)).1, (zL (zm E hy)).1]
  simp [eqGuard, binOp, Op.intDiv, hb, ← hr]⟩
theorem zjo {f : FuncId} {args : Array Operand} {ats : Array TypeId} {cs : List AVal} {c : AVal} {v : Value} {d : Nat} (hw : awant ops e o = some true) (hdst : o.dst = some d) (hd : Nat.blt d nt = true) (ho : o.op = .call { callee := .value (.func f), args := args, argTypes := ats }) (hx : aevs e args.toList = some cs)
  (H : ACall P f (cs.map (lendW h)) [] (fun c' h' => c' = c ∧ h' = [])) (hc : valA c = some v) (hrel : ∀ w F ι, VRel w F ι c v) (HK : AOps P nt ops Q rest ((d, c) :: e) h) : AOps P nt ops Q (o :: rest) e h :=
 zax (T := []) (R := fun e' h' => e' = aput (some d) c e ∧ h' = h) hw (fun Pm F w0 pin ι a w R K Qx hK => by
  unfold Oper.wp
  rw [za1 H.1 ho, Oper.upon_enter, hdst]
  refine (H.2 _ _ w _ _ _ w (HRel.none (fun _ => False) w (fun _ h => h.elim) R.heap.glob) (ze8 R.heap (zaM R.env hx))).mono ?_
  rintro x w' ⟨u, c', h', ι', rfl, ⟨rfl, rfl⟩, hH, hv⟩
  have := zaa hv hc
  subst this
  have G := hH.grewC
  exact hK ι _ _ _ w' ⟨rfl, rfl⟩ ((R.grew G).put (d := some d) hd (hrel _ _ _)) ⟨G.ct [], fun id _ v r h1 h2 _ => ⟨v, h1, h2⟩⟩ (zx _ _ _)) fun e' h' ⟨h1, h2⟩ => by subst h1 h2; exact HK
theorem zhN {t u el : Nat} {x : Operand} {p q : Nat} (TO : TabOk P tab) (ho : o.op = .convert t u x) (ht : telem tab t = some el) (hel : tint tab el = some .u8) (hu : tstr tab u = true) (hx : aev e x = some (.d (.sl [.sc (.int .u8 (p : Int)), .sc (.int .u8 (q : Int))] 2))) : AYield P T e h o (strA [UInt8.ofNat p, UInt8.ofNat q]) := fun Pm F w0 pin ι a w H E => by
 obtain ⟨te, h1, h2⟩ := zJ ht
 obtain ⟨dd, hd1, _, hs⟩ := (TO t te h1).und
 rw [h2] at hs
 have hs : dd = .slice el := hs
 subst hs
 have hv := zm E hx
 generalize hau : a.eval x = v at hv
 cases hv with
 | d _ _ hd =>
  cases hd with
  | sl _ _ b o2 cap vs hn hl hf hc hr =>
   have hvs : vs = [Value.int .u8 (p : Int), Value.int .u8 (q : Int)] := by
    match vs, hl, hr with
    | [v1, v2], _, hr =>
     have r1 := hr 0 _ v1 rfl rfl
     have r2 := hr 1 _ v2 rfl rfl
     cases r1
     cases r2
     rfl
   refine ⟨.string ⟨⟨[UInt8.ofNat p, UInt8.ofNat q]⟩⟩, zQ rfl, fun w' hw' => ?_⟩
   have hcell : ∀ (j : Nat) (v : Value), ([(p : Int), (q : Int)].map (Value.int .u8))[j]? = some v → w'.cell? (Addr.add ⟨b, o2, none⟩ j) = some v := fun j v hj => by
    have h8 := hc j v (by rw [hvs]; exact hj)
    rw [Addr.add_mid]
    exact z7 (zfz hw' (zcg h8) (hf (by rw [hvs]; simp))) h8
   have hrun := run_loadCells_list (P := P) (w := w') ⟨b, o2, none⟩ ([(p : Int), (q : Int)].map (Value.int .u8)) hcell
   have h5 := run_bytesToString (P := P) w' ⟨b, o2, none⟩ 2 cap [(p : Int), (q : Int)] hrun
   have h6 := run_convert_bytes_string (P := P) w' t u el (some ⟨b, o2, none⟩) 2 cap hd1 (zaZ TO hel) (zaQ TO hu)
   rw [h5] at h6
   simp only [execOp, ho, hau]
   simp [h6]
   rfl
end
attribute [local irreducible] AWp AOps AQ AYield AEff ACall AWk AAny AAt AThen AIn APost NoPanic
abbrev nV : List AVal := [.d (sD [97]), .d (cD 1), .d (.sl [] 0), .row 900, .d (.sl [] 0), .d (.sl [] 0), .d (.sl [] 0), .d (.sl [] 0), .d (.sl [] 0), .d (.sl [] 0), .d (.sl [] 0), .d (.sl [] 0)]
abbrev nH (l : List Ifx) : Heap := [(1, .var nV), (900, gR 38 11 ifxD l)]
set_option maxHeartbeats 64000000 in
theorem zb6 : ACall Tryz.prog 3 [] [] (Just (boolA true)) := by
 have h64 := za8 (dvN ifs64) (zcX (zhf (fun x hx => by obtain ⟨i, _, rfl⟩ := List.mem_map.1 hx; exact ⟨_, rfl⟩) (by decide)))
 have h65 := za8 (dvN ifs65) (zcX (zhf (fun x hx => by
  rcases List.mem_append.1 hx with hx | hx
  ·obtain ⟨i, _, rfl⟩ := List.mem_map.1 hx; exact ⟨_, rfl⟩
  ·rw [List.mem_singleton.1 hx]; exact ⟨_, rfl⟩) (by decide)))
 have hX := za8 (dvX [97]) (zcX (zhe _))
 have hY := za8 (dvX [49, 97]) (zcX (zhe _))
 rw [chk64] at h64
 rw [chk65] at h65
 rw [chkX] at hX
 rw [chkY] at hY
 have h0 := zbR [] zay (by decide)
 rw [snap0] at h0
 have h0 := zfk h0
 have h33 := zbR dvs33 (fun d hd => by obtain ⟨i, _, rfl⟩ := List.mem_map.1 hd; exact zfy i) (by rw [len33]; decide)
 rw [← zba (zcT (l := dvs33) (by rw [len33]; decide))] at h33
 have h32 := zbR dvs32 (fun d hd => by obtain ⟨i, _, rfl⟩ := List.mem_map.1 hd; exact zfy i) (by rw [len32]; decide)
 rw [zcR snOk32] at h32
 obtain ⟨A, hA, hAl⟩ : ∃ A : List Dvc, srtN dnm (dvs32.map formL) = A ∧ A.length = 32 := ⟨_, rfl, by rw [(zfS _ _).length_eq, List.length_map, len32]⟩
 rw [hA] at h32
 clear hA
 have l64 : ifs64.length = 64 := rfl
 have hcat : ∀ (c : UInt8) (i : Nat), i < 64 → [c] ++ [UInt8.ofNat ((97 + i / 26) % ((2 : Int) ^ IntKind.u8.bits).natAbs), UInt8.ofNat ((97 + i % 26) % ((2 : Int) ^ IntKind.u8.bits).natAbs)] = nmI c i := fun c i hi => by
  have e : ((2 : Int) ^ IntKind.u8.bits).natAbs = 256 := rfl
  rw [e, Nat.mod_eq_of_lt (by omega), Nat.mod_eq_of_lt (by omega)]; rfl
 refine zc za Tryz.func3 rfl Tryz.ntmps3 (congrArg Array.toList Tryz.results3) (by kernel_rfl) rfl ?_
 repeat ((fail_if_success (refine stopR 2 ?_)); first
  | refine zn ?_
  | refine zp ?_
  | refine ze ?_
  | ((first | apply q_K rfl | apply q_X rfl); (first | exact q_H | fail))
  | refine zi ?_
  | refine zk ?_
  | refine q_j ?_
  | refine q_k ?_
  | refine q_a ?_
  | refine q_b ?_
  | refine A_ct rfl ?_
  | refine A_cf rfl ?_
  | refine zz ?_
  | refine zA ?_
  | refine q_l ?_
  | refine q_n ?_
  | refine q_h ?_
  | fail)
 refine zf (ziV (b := 1) (id := 900) (i := 3) 38 11 rfl rfl rfl rfl) ?_
 refine zf (ziU (b := 1) rfl) ?_
 repeat (first | refine q_Z ?_ | ((first | apply q_K rfl | apply q_X rfl); (exact q_H)) | refine q_U ?_)
 refine zw (fun i : Nat => [(0, boolA false), (1, .ptr 1 0), (2, intA (i : Int))]) (fun i => nH ((List.range i).map fun i => ifN (nmI 101 i))) (fun i => i ≤ 64) (fun i => 64 - i) 0 (Nat.zero_le _) (q_S) ?_
 intro i hi
 try dsimp only
 by_cases hlt : i < 64
 ·have c1 := zbB (m := i / 26) (by omega)
  have c2 := zbB (m := i % 26) (by omega)
  have hc := hcat 101 i hlt
  have eL : ((List.range i).map fun i => ifN (nmI 101 i)).length = i := by rw [List.length_map, List.length_range]
  repeat ((fail_if_success (refine stopR 99 ?_)); first
   | refine zn ?_
   | refine zp ?_
   | refine ze ?_
   | ((first | apply q_K rfl | apply q_X rfl); (first | exact q_H | (first | exact zhP rfl rfl rfl | exact zdU za rfl rfl rfl rfl rfl c1 | exact zdU za rfl rfl rfl rfl rfl c2 | exact zji rfl rfl rfl (by decide) (zd0 i 26) | exact zhN za rfl rfl rfl rfl rfl | exact zde rfl rfl rfl (by simp))))
   | refine zi ?_
   | refine zk ?_
   | refine q_j ?_
   | refine q_k ?_
   | refine q_a ?_
   | refine q_b ?_
   | refine A_ct rfl ?_
   | refine A_cf rfl ?_
   | refine zz ?_
   | refine zA ?_
   | refine q_l ?_
   | refine q_n ?_
   | refine q_h ?_
   | (first | (refine q_c ?_; first | refine zR (zy (id := 37) rfl) ?_ | refine zR (zy (id := 88) rfl) ?_ | skip) | refine zO (rid := 900) za rfl rfl rfl rfl rfl rfl rfl rfl rfl rfl rfl rfl (Src.row rfl) rfl (by omega) ?_))
  refine ⟨i + 1, by omega, by omega, zq ⟨rfl, rfl, rfl, trivial⟩ ⟨rfl, zaH (by rw [eL, List.length_map, List.length_range]) ?_ rfl, trivial⟩⟩
  rw [List.range_succ, List.map_append, List.flatMap_append]
  congr 1
  show [Dat.sc (.string ⟨⟨[101] ++ _⟩⟩), _, _, _, _, _, _, _, _, _, _] = _
  rw [hc]
  rfl
 obtain rfl : i = 64 := by omega
 repeat ((fail_if_success (refine stopR 6 ?_)); first
  | refine zn ?_
  | refine zp ?_
  | refine ze ?_
  | ((first | apply q_K rfl | apply q_X rfl); (first | exact q_H | fail))
  | refine zi ?_
  | refine zk ?_
  | refine q_j ?_
  | refine q_k ?_
  | refine q_a ?_
  | refine q_b ?_
  | refine A_ct rfl ?_
  | refine A_cf rfl ?_
  | refine zz ?_
  | refine zA ?_
  | refine q_l ?_
  | refine q_n ?_
  | refine q_h ?_
  | fail)
 refine zf (q_S (e1 := [(0, boolA false), (1, .ptr 1 0)]) (h1 := nH ifs64)) ?_
 repeat ((fail_if_success (refine stopR 7 ?_)); first
  | refine zn ?_
  | refine zp ?_
  | refine ze ?_
  | ((first | apply q_K rfl | apply q_X rfl); (first | exact q_H | fail))
  | refine zi ?_
  | refine zk ?_
  | refine q_j ?_
  | refine q_k ?_
  | refine q_a ?_
  | refine q_b ?_
  | refine A_ct rfl ?_
  | refine A_cf rfl ?_
  | refine zz ?_
  | refine zA ?_
  | refine q_l ?_
  | refine q_n ?_
  | refine q_h ?_
  | (refine zjo rfl rfl rfl rfl rfl h64 rfl (fun _ _ _ => zB _ _ _ _ _ rfl rfl) ?_))
 refine zf (q_S (e1 := [(1, .ptr 1 0), (3, strA []), (4, intA 0)]) (h1 := nH ifs64)) ?_
 repeat ((fail_if_success (refine stopR 8 ?_)); first
  | refine zn ?_
  | refine zp ?_
  | refine ze ?_
  | ((first | apply q_K rfl | apply q_X rfl); (first | exact q_H | fail))
  | refine zi ?_
  | refine zk ?_
  | refine q_j ?_
  | refine q_k ?_
  | refine q_a ?_
  | refine q_b ?_
  | refine A_ct rfl ?_
  | refine A_cf rfl ?_
  | refine zz ?_
  | refine zA ?_
  | refine q_l ?_
  | refine q_n ?_
  | refine q_h ?_
  | (first | (refine q_c ?_; first | refine zR (zy (id := 37) rfl) ?_ | refine zR (zy (id := 88) rfl) ?_ | skip) | refine zO (rid := 900) za rfl rfl rfl rfl rfl rfl rfl rfl rfl rfl rfl rfl (Src.row rfl) rfl (by omega) ?_))
 refine zf (zq (e1 := [(1, .ptr 1 0), (3, strA []), (4, intA 0)]) (h1 := nH ifs65) ⟨rfl, rfl, rfl, trivial⟩ ⟨rfl, zaH (by rw [l64]; rfl) (by unfold ifs65; rw [List.flatMap_append]; rfl) rfl, trivial⟩) ?_
 repeat ((fail_if_success (refine stopR 9 ?_)); first
  | refine zn ?_
  | refine zp ?_
  | refine ze ?_
  | ((first | apply q_K rfl | apply q_X rfl); (first | exact q_H | fail))
  | refine zi ?_
  | refine zk ?_
  | refine q_j ?_
  | refine q_k ?_
  | refine q_a ?_
  | refine q_b ?_
  | refine A_ct rfl ?_
  | refine A_cf rfl ?_
  | refine zz ?_
  | refine zA ?_
  | refine q_l ?_
  | refine q_n ?_
  | refine q_h ?_
  | (refine zjo rfl rfl rfl rfl rfl h65 rfl (fun _ _ _ => zB _ _ _ _ _ rfl rfl) ?_))
 refine zf (q_S (e1 := [(3, strA []), (4, intA 0), (5, strA [105, 102, 97, 99, 101, 32, 54, 52]), (6, intA 121)]) (h1 := [])) ?_
 repeat ((fail_if_success (refine stopR 12 ?_)); first
  | refine zn ?_
  | refine zp ?_
  | refine ze ?_
  | ((first | apply q_K rfl | apply q_X rfl); (first | exact q_H | fail))
  | refine zi ?_
  | refine zk ?_
  | refine q_j ?_
  | refine q_k ?_
  | refine q_a ?_
  | refine q_b ?_
  | refine A_ct rfl ?_
  | refine A_cf rfl ?_
  | refine zz ?_
  | refine zA ?_
  | refine q_l ?_
  | refine q_n ?_
  | refine q_h ?_
  | (first | (refine zR (z8 (t := 61) rfl zcU) ?_; refine q_O hX ?_) | (refine zR (z8 (t := 66) rfl zcU) ?_; refine q_O hY ?_) | refine q_O h0 ?_))
 refine zf (q_S (e1 := [(3, strA []), (4, intA 0), (5, strA [105, 102, 97, 99, 101, 32, 54, 52]), (6, intA 121), (7, strA [107, 105, 110, 100]), (8, intA 121), (9, strA [110, 97, 109, 101]), (10, intA 121), (11, .d (.sl [] 0)), (12, intA 0), (13, intA 0)]) (h1 := [])) ?_
 refine zn ?_
 (first | refine ze ?_ | refine zg rfl mixed (by kernel_rfl) ?_)
 repeat' (first | ((first | apply q_K rfl | apply q_X rfl); (first | exact q_H | fail)) | refine q_d ?_ | refine q_a ?_ | refine q_b ?_ | refine q_e ?_ | refine q_f ?_ | refine q_g ?_ | ((fail_if_success (refine O_wt rfl ?_)); refine O_gs rfl rfl (fun _ => ?_) (fun _ => ?_)) | ((fail_if_success (refine Q_wt rfl ?_)); refine Q_gs rfl rfl (fun _ => ?_) (fun _ => ?_)) | refine zi ?_ | refine zk ?_ | refine q_j ?_ | fail)
 refine zf (z6 33 12 (t := 14) (id := 14) rfl rfl) ?_
 repeat (first | refine q_Z ?_ | ((first | apply q_K rfl | apply q_X rfl); (exact q_H)) | refine q_U ?_)
 refine zw (fun i : Nat => [(3, strA []), (4, intA 0), (5, strA [105, 102, 97, 99, 101, 32, 54, 52]), (6, intA 121), (7, strA [107, 105, 110, 100]), (8, intA 121), (9, strA [110, 97, 109, 101]), (10, intA 121), (11, .d (.sl [] 0)), (12, intA 0), (13, intA 0), (14, .row 14), (15, intA (i : Int))]) (fun i => [(14, gR 33 12 dvcD ((List.range i).map dvK))]) (fun i => i ≤ 33) (fun i => 33 - i) 0 (Nat.zero_le _) (q_S) ?_
 intro i hi
 try dsimp only
 by_cases hlt : i < 33
 ·have c1 := zbB (m := i / 26) (by omega)
  have c2 := zbB (m := i % 26) (by omega)
  have hc := hcat 97 i (by omega)
  have eL : ((List.range i).map dvK).length = i := by rw [List.length_map, List.length_range]
  repeat ((fail_if_success (refine stopR 99 ?_)); first
   | refine zn ?_
   | refine zp ?_
   | refine ze ?_
   | ((first | apply q_K rfl | apply q_X rfl); (first | exact q_H | (first | exact zhP rfl rfl rfl | exact zdU za rfl rfl rfl rfl rfl c1 | exact zdU za rfl rfl rfl rfl rfl c2 | exact zji rfl rfl rfl (by decide) (zd0 i 26) | exact zhN za rfl rfl rfl rfl rfl | exact zde rfl rfl rfl (by simp))))
   | refine zi ?_
   | refine zk ?_
   | refine q_j ?_
   | refine q_k ?_
   | refine q_a ?_
   | refine q_b ?_
   | refine A_ct rfl ?_
   | refine A_cf rfl ?_
   | refine zz ?_
   | refine zA ?_
   | refine q_l ?_
   | refine q_n ?_
   | refine q_h ?_
   | (first | (refine zR (z8 (t := 91) rfl zcU) ?_; refine q_c ?_) | (refine q_c ?_; first | refine zR (zy (id := 37) rfl) ?_ | refine zR (zy (id := 88) rfl) ?_ | skip) | refine zO (rid := 14) za rfl rfl rfl rfl rfl rfl rfl rfl rfl rfl rfl rfl (Src.row rfl) rfl (by omega) ?_))
  refine ⟨i + 1, by omega, by omega, zq ⟨rfl, rfl, rfl, rfl, rfl, rfl, rfl, rfl, rfl, rfl, rfl, rfl, rfl, trivial⟩ ⟨zaH (by rw [eL, List.length_map, List.length_range]) ?_ rfl, trivial⟩⟩
  rw [List.range_succ, List.map_append, List.flatMap_append]
  congr 1
  show [Dat.sc (.string ⟨⟨[97] ++ _⟩⟩), _, _, _, _, _, _, _, _, _, _, _] = _
  rw [hc]
  rfl
 obtain rfl : i = 33 := by omega
 repeat ((fail_if_success (refine stopR 17 ?_)); first
  | refine zn ?_
  | refine zp ?_
  | refine ze ?_
  | ((first | apply q_K rfl | apply q_X rfl); (first | exact q_H | fail))
  | refine zi ?_
  | refine zk ?_
  | refine q_j ?_
  | refine q_k ?_
  | refine q_a ?_
  | refine q_b ?_
  | refine A_ct rfl ?_
  | refine A_cf rfl ?_
  | refine zz ?_
  | refine zA ?_
  | refine q_l ?_
  | refine q_n ?_
  | refine q_h ?_
  | fail)
 refine zf (zy (id := 14) rfl) ?_
 refine zf (q_S (e1 := [(3, strA []), (4, intA 0), (5, strA [105, 102, 97, 99, 101, 32, 54, 52]), (6, intA 121), (7, strA [107, 105, 110, 100]), (8, intA 121), (9, strA [110, 97, 109, 101]), (10, intA 121), (11, .d (.sl [] 0)), (12, intA 0), (13, intA 0), (14, dvsA dvs33)]) (h1 := [])) ?_
 repeat ((fail_if_success (refine stopR 18 ?_)); first
  | refine zn ?_
  | refine zp ?_
  | refine ze ?_
  | ((first | apply q_K rfl | apply q_X rfl); (first | exact q_H | fail))
  | refine zi ?_
  | refine zk ?_
  | refine q_j ?_
  | refine q_k ?_
  | refine q_a ?_
  | refine q_b ?_
  | refine A_ct rfl ?_
  | refine A_cf rfl ?_
  | refine zz ?_
  | refine zA ?_
  | refine q_l ?_
  | refine q_n ?_
  | refine q_h ?_
  | refine q_O h33 ?_)
 have e33 : dvsA dvs33 = .d (.sl (dvs32.flatMap dvcD ++ [dvK 32].flatMap dvcD) 33) := by
  rw [zhd]
  show AVal.d (.sl ((dvs32 ++ [dvK 32]).flatMap dvcD) _) = _
  rw [List.flatMap_append]; rfl
 refine zf (zq (e1 := [(3, strA []), (4, intA 0), (5, strA [105, 102, 97, 99, 101, 32, 54, 52]), (6, intA 121), (7, strA [107, 105, 110, 100]), (8, intA 121), (9, strA [110, 97, 109, 101]), (10, intA 121), (11, .d (.sl [] 0)), (12, intA 0), (13, intA 0), (14, .d (.sl (dvs32.flatMap dvcD ++ [dvK 32].flatMap dvcD) 33)), (17, intA 32), (18, intA 121)]) (h1 := []) ⟨rfl, rfl, rfl, rfl, rfl, rfl, rfl, rfl, rfl, rfl, rfl, congrArg some e33, rfl, rfl, trivial⟩ trivial) ?_
 refine zn ?_
 refine ze ?_
 (apply O_y rfl rfl rfl; exact q_1)
 (apply O_y rfl rfl rfl; exact zhO (m := 32) za rfl rfl rfl rfl rfl rfl (by decide))
 refine zR (z8 (t := 102) rfl zig) ?_
 repeat ((fail_if_success (refine stopR 19 ?_)); first
  | refine zn ?_
  | refine zp ?_
  | refine ze ?_
  | ((first | apply q_K rfl | apply q_X rfl); (first | exact q_H | fail))
  | refine zi ?_
  | refine zk ?_
  | refine q_j ?_
  | refine q_k ?_
  | refine q_a ?_
  | refine q_b ?_
  | refine A_ct rfl ?_
  | refine A_cf rfl ?_
  | refine zz ?_
  | refine zA ?_
  | refine q_l ?_
  | refine q_n ?_
  | refine q_h ?_
  | refine q_O h32 ?_)
 refine zf (q_S (e1 := [(3, strA []), (4, intA 0), (5, strA [105, 102, 97, 99, 101, 32, 54, 52]), (6, intA 121), (7, strA [107, 105, 110, 100]), (8, intA 121), (9, strA [110, 97, 109, 101]), (10, intA 121), (11, .d (.sl [] 0)), (12, intA 0), (13, intA 0), (17, intA 32), (18, intA 121), (19, dvsA A), (20, intA 0), (21, intA 0)]) (h1 := [])) ?_
 repeat (first | refine q_Y ?_ | ((first | apply q_K rfl | apply q_X rfl); (first | exact q_H | (first | exact R_sT rfl rfl rfl rfl (by decide)))) | refine q_U ?_)
 exact zo rfl ⟨rfl, rfl⟩
#print axioms zb6
end Go.Proofs.YtoahnbmedcjpeaaGreatDoor.Ab

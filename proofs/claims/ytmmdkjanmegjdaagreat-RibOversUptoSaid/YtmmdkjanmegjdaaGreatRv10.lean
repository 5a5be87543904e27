/-
 Texts of a proof, one behind the other (part 11).
-/
import Derived.Sort.AssemblyPlain
import Derived.Test.YtmmdkjanmegjdaaGreatRv2
import Derived.Test.YtmmdkjanmegjdaaGreatRv4
import Derived.Test.YtmmdkjanmegjdaaGreatRv9
set_option linter.unusedSimpArgs false
set_option linter.unusedVariables false
namespace Go.Proofs.YtmmdkjanmegjdaaGreat.Ab
set_option maxRecDepth 100000
open Go.RowKit Go.Lib Go.Sort
section
variable {P : Program} {nt : Nat} {Q : Post} {e : Env} {h : Heap} {ops : Array Oper} {o : Oper} {T : List Nat} {tab : TTab} {fuel i : Nat} {listed : Array Bool} {rest : List Oper}
theorem zC {t : TypeId} {x y : Operand} {id off s el k n : Nat} {cs ds : List Dat} {xs : List AVal} {c : AVal} (TO : TabOk P tab) (hi : ops[i]? = some o) (hw : awant ops e o = some true) (hdst : o.dst = none) (ho : o.op = .store t x y)
  (hx : aev e x = some (.eptr id off)) (hb : look h id = some (.row el k n cs)) (hy : aev e y = some c) (hcs : cellsA c = some xs) (hds : datsA xs = some ds) (hs : tsize tab t = some s) (hl : Nat.beq xs.length s = true)
  (hT : T.contains id = true) (hle : off + s ≤ cs.length) (h0 : 0 < n)
  (HK : AAny P nt ops Q T fuel (listed.setIfInBounds i true) e ((id, .row el k n (setW cs off ds)) :: h)) : AAt P nt ops Q T fuel listed i e h := by
 obtain ⟨te, h1, rfl⟩ := zu hs
 exact za5 hi hw (zdL TO ho hdst h1 hx hb hy hcs (zbQ hds) (Nat.eq_of_beq_eq_true hl) hle h0 (by rfl) hT) fun e' h' ⟨h1, h2⟩ => by subst h1 h2; exact HK
theorem zl6 {a b : Nat} {x y : AVal} (hne : Nat.beq a b = false) : AWkS nt ((a, x) :: (b, y) :: e) h ((b, y) :: (a, x) :: e) h := fun Pm F w0 pin ι ac w R =>
 ⟨ι, fun _ _ h => h, R.heap, fun t c ht => R.env t c (by
  rw [← ht]
  simp only [look]
  by_cases hb : Nat.beq b t = true
  ·have : Nat.beq a t = false := ze6 fun he => zb9 hne (he.trans (Nat.eq_of_beq_eq_true hb).symm)
   rw [hb, this]; rfl
  ·rw [Bool.eq_false_iff.2 hb]
   cases Nat.beq a t <;> rfl), R.defers, R.size⟩
theorem zaV {j k dj dk : Nat} {oj ok : Oper} {cj ck : AVal} {l2 : Array Bool} (hr : Region.ready .any ops listed = [j, k]) (hr1 : Region.ready .any ops (listed.setIfInBounds j true) = [k]) (hr2 : Region.ready .any ops (listed.setIfInBounds k true) = [j])
  (hl1 : (listed.setIfInBounds j true).setIfInBounds k true = l2) (hl2 : (listed.setIfInBounds k true).setIfInBounds j true = l2)
  (hj : ops[j]? = some oj) (hk : ops[k]? = some ok) (hdj : oj.dst = some dj) (hdk : ok.dst = some dk) (hbj : Nat.blt dj nt = true) (hbk : Nat.blt dk nt = true) (hne : Nat.beq dj dk = false)
  (hwj : awant ops e oj = some true) (hwk : awant ops e ok = some true) (hwj' : awant ops ((dk, ck) :: e) oj = some true) (hwk' : awant ops ((dj, cj) :: e) ok = some true)
  (hyj : AYield P [] e h oj cj) (hyk : AYield P [] e h ok ck) (hyj' : AYield P [] ((dk, ck) :: e) h oj cj) (hyk' : AYield P [] ((dj, cj) :: e) h ok ck)
  (H : AAny P nt ops Q T fuel l2 ((dk, ck) :: (dj, cj) :: e) h) : AAny P nt ops Q T (fuel + 2) listed e h :=
 zcf hr (zP hj hwj hdj hbj hyj (zd hr1 (zP hk hwk' hdk hbk hyk' (zhI hl1 H))))
  (zP hk hwk hdk hbk hyk (zd hr2 (zP hj hwj' hdj hbj hyj' (zhI hl2 (zkd (zl6 hne) H)))))
theorem zaD {t u : TypeId} {x y : Operand} {a b : Nat} (ho : o.op = .binOp .add t x y u) (hx : aev e x = some (.d (.sc (.int .i64 (a : Int))))) (hy : aev e y = some (.d (.sc (.int .i64 (b : Int))))) (hr : a + b ≤ 9223372036854775807 := by omega) :
  AYield P T e h o (.d (.sc (.int .i64 ((a + b : Nat) : Int)))) := zob ho hx hy ((zaL ⟨by omega, by omega⟩).trans (by omega))
theorem zb2 {t u : TypeId} {x y : Operand} {a b : Nat} (ho : o.op = .binOp .sub t x y u) (hx : aev e x = some (.d (.sc (.int .i64 (a : Int))))) (hy : aev e y = some (.d (.sc (.int .i64 (b : Int))))) (hr : b ≤ a := by omega) (hm : a ≤ 9223372036854775807 := by omega) :
  AYield P T e h o (.d (.sc (.int .i64 ((a - b : Nat) : Int)))) := zl2 ho hx hy ((zaL ⟨by omega, by omega⟩).trans (by omega))
theorem zmc {t u : TypeId} {x y : Operand} {a b : Nat} (ho : o.op = .binOp .mul t x y u) (hx : aev e x = some (.d (.sc (.int .i64 (a : Int))))) (hy : aev e y = some (.d (.sc (.int .i64 (b : Int))))) (hr : a * b ≤ 9223372036854775807 := by omega) :
  AYield P T e h o (.d (.sc (.int .i64 ((a * b : Nat) : Int)))) := zpG ho hx hy (by rw [← Int.natCast_mul]; exact zaL ⟨by omega, by omega⟩)
theorem zpc {t u : TypeId} {x y : Operand} {a b : Nat} (ho : o.op = .binOp .quo t x y u) (hx : aev e x = some (.d (.sc (.int .i64 (a : Int))))) (hy : aev e y = some (.d (.sc (.int .i64 (b : Int))))) (hb : b ≠ 0 := by decide) (hm : a ≤ 9223372036854775807 := by omega) :
  AYield P T e h o (.d (.sc (.int .i64 ((a / b : Nat) : Int)))) := zN _ fun w F ι ac E =>
 ⟨.int .i64 ((a / b : Nat) : Int), zH rfl, fun w' => by
  simp only [execOp, ho, (zQ (zj E hx)).1, (zQ (zj E hy)).1]
  have h1 : ((a : Int)).tdiv (b : Int) = ((a / b : Nat) : Int) := by rw [Int.ofNat_tdiv]
  have h3 := Nat.div_le_self a b
  obtain ⟨q, hq⟩ : ∃ q, a / b = q := ⟨_, rfl⟩
  rw [hq] at h1 h3 ⊢
  have h2 : IntKind.i64.wrap (q : Int) = (q : Int) := zaL ⟨by omega, by omega⟩
  have h4 : ((b : Int)) ≠ 0 := by omega
  simp [eqGuard, binOp, Op.intDiv, h4, h1, h2, hb]⟩
theorem zpd {t u : TypeId} {x y : Operand} {a : Nat} {m : Int} (k : Nat) (ho : o.op = .binOp .mul t x y u) (hx : aev e x = some (.d (.sc (.int .i64 m)))) (hm : m = (k : Int)) (hy : aev e y = some (.d (.sc (.int .i64 (a : Int))))) (hr : k * a ≤ 9223372036854775807 := by omega) :
  AYield P T e h o (.d (.sc (.int .i64 ((k * a : Nat) : Int)))) := by subst hm; exact zmc ho hx hy hr
theorem ziz {t u : TypeId} {x y : Operand} {a : Nat} {m : Int} (k : Nat) (ho : o.op = .binOp .mul t x y u) (hx : aev e x = some (.d (.sc (.int .i64 (a : Int))))) (hy : aev e y = some (.d (.sc (.int .i64 m)))) (hm : m = (k : Int)) (hr : a * k ≤ 9223372036854775807 := by omega) :
  AYield P T e h o (.d (.sc (.int .i64 ((a * k : Nat) : Int)))) := by subst hm; exact zmc ho hx hy hr
theorem zix {t u : TypeId} {x y : Operand} {a : Nat} {m : Int} (k : Nat) (ho : o.op = .binOp .quo t x y u) (hx : aev e x = some (.d (.sc (.int .i64 (a : Int))))) (hy : aev e y = some (.d (.sc (.int .i64 m)))) (hm : m = (k : Int)) (hb : k ≠ 0 := by decide) (hr : a ≤ 9223372036854775807 := by omega) :
  AYield P T e h o (.d (.sc (.int .i64 ((a / k : Nat) : Int)))) := by subst hm; exact zpc ho hx hy hb hr
theorem zK {a b p i : Nat} (h : look [(a, b)] p = some i) : p = a ∧ i = b := by
 simp only [look] at h
 cases hb : Nat.beq a p
 ·rw [hb] at h; cases h
 ·rw [hb] at h
  exact ⟨(Nat.eq_of_beq_eq_true hb).symm, (Option.some.inj h).symm⟩
theorem O_cU {f : FuncId} {args : Array Operand} {ats : Array TypeId} {cs cs0 : List AVal} {c : AVal} {d el k n n1 : Nat} {ds ds1 : List Dat} (i : Nat) (H : ACall P f cs [(1000, .row el k n ds)] (fun c' h' => c' = c ∧ h' = [(1000, .row el k n1 ds1)]))
  (hok : cs.all (okV [(1000, i)]) = true) (hb : look h i = some (.row el k n ds)) (hw : awant ops e o = some true) (hdst : o.dst = some d) (hd : Nat.blt d nt = true) (ho : o.op = .call { callee := .value (.func f), args := args, argTypes := ats }) (hx : aevs e args.toList = some cs0) (hcs : cs.map (renV [(1000, i)]) = cs0)
  (HK : AOps P nt ops Q rest ((d, renV [(1000, i)] c) :: e) ((i, .row el k n1 ds1) :: h)) : AOps P nt ops Q (o :: rest) e h := by
 refine O_cP [(1000, i)] (fun p p' i h1 h2 => by rw [(zK h1).1, (zK h2).1]) (fun p i h1 => by rw [(zK h1).1]; exact ⟨Nat.le_refl _, rfl, rfl⟩) H (fun c hc => List.all_eq_true.1 hok c hc) ⟨⟨i, _, rfl, hb, rfl, trivial⟩, trivial⟩ hw hdst hd ho hx hcs ?_
 exact HK
def XQ (nt id : Nat) (Ex : Env) (Hx : Heap) (Q : Post) : Post
 | .exit j, e, h => cond (Nat.beq j id) (AWk nt e h Ex Hx) (Q (.exit j) e h)
 | .normal, _, _ => False
 | x, e, h => Q x e h
theorem zpz {id : Nat} {Ex : Env} {Hx : Heap} (h : NoPanic Q) : NoPanic (XQ nt id Ex Hx Q) := fun ch e h' => h ch e h'
instance {nt id : Nat} {Ex : Env} {Hx : Heap} {Q : Post} [I : NPc Q] : NPc (XQ nt id Ex Hx Q) := ⟨zpz I.np⟩
theorem zed : NoPanic RF := fun _ _ _ h => h
theorem q_D {T : List Nat} {e : Env} {h : Heap} {o : Oper} {c : AVal} (hy : AYield Tryz.prog T e h o c := by first | exact q_1 | exact q_2 | exact zaD rfl rfl rfl | exact zb2 rfl rfl rfl | exact q_9 | exact q_10 | exact q_17) : AYield Tryz.prog T e h o c := hy
theorem q_E {T : List Nat} {e : Env} {h : Heap} {o : Oper} {c : AVal} (hy : AYield Tryz.prog T e h o c := by first | exact q_11 | exact q_12 | exact q_20 | exact q_25 | exact q_26 | exact q_14 | exact zpd 2 rfl rfl rfl rfl | exact ziz 1 rfl rfl rfl rfl | exact ziz 2 rfl rfl rfl rfl | exact ziz 3 rfl rfl rfl rfl | exact zix 2 rfl rfl rfl rfl | exact zix 4 rfl rfl rfl rfl | exact zix 8 rfl rfl rfl rfl | exact q_23 | exact q_15 | exact q_7) : AYield Tryz.prog T e h o c := hy
theorem q_F {T : List Nat} {e : Env} {h : Heap} {o : Oper} {c : AVal} (hy : AYield Tryz.prog T e h o c := by first | exact zaD rfl rfl rfl | exact zb2 rfl rfl rfl) : AYield Tryz.prog T e h o c := hy
theorem q_G {T : List Nat} {e : Env} {h : Heap} {o : Oper} {c : AVal} (hy : AYield Tryz.prog T e h o c := by first | exact q_F | exact q_H) : AYield Tryz.prog T e h o c := hy
theorem zb {z : Bool} {id : Nat} {c r : Code} (H : AWp z P nt (.block id (.loop c)) (AThen (AWp z P nt r Q) Q) e h) : AWp z P nt (.block id (.loop c)) (AThen (AWp z P nt r Q) Q) e h := H
theorem za7 {z : Bool} {id : Nat} {c r : Code} {α : Type} (E : α → Env) (H : α → Heap) (Φ : α → Prop) (μ : α → Nat) (x0 : α) (Ex : Env) (Hx : Heap) (h0 : Φ x0) (hk : AWk nt e h (E x0) (H x0))
  (round : ∀ x, Φ x → AWp z P nt c (AThen (fun e' h' => ∃ y, Φ y ∧ μ y < μ x ∧ AWk nt e' h' (E y) (H y)) (XQ nt id Ex Hx Q)) (E x) (H x)) (hr : AWp z P nt r Q Ex Hx) : AWp z P nt (.block id (.loop c)) (AThen (AWp z P nt r Q) Q) e h := by
 refine zS (zw E H Φ μ x0 h0 hk fun x hx => (round x hx).mono fun y e' h' hy => ?_)
 cases y with
 | normal => exact hy
 | exit j =>
  have hy : cond (Nat.beq j id) (AWk nt e' h' Ex Hx) (Q (.exit j) e' h') := hy
  show cond (Nat.beq j id) (AWp z P nt r Q e' h') (Q (.exit j) e' h')
  cases hb : Nat.beq j id
  ·rw [hb] at hy; exact hy
  ·rw [hb] at hy; exact zt hy hr
 | ret => exact hy
 | goto l => exact hy
 | panic ch => exact hy
 | outgrown => exact hy
end
theorem intE {a b : Int} (h : a = b) : some (AVal.d (.sc (.int .i64 a))) = some (AVal.d (.sc (.int .i64 b))) := by rw [h]
abbrev natA (n : Nat) : AVal := .d (.sc (.int .i64 (n : Int)))
def uvA (z : Int) : AVal := .d (.sc (.int .u32 z))
def uC (z : Int) : Dat := .sc (.int .u32 z)
def uR (d : Array Int) : ABlk := .row 44 1 d.size (d.toList.map uC)
theorem zD (d : Array Int) : (d.toList.map uC).length = d.size := by simp
theorem zp {d : Array Int} {i : Nat} (hi : i < d.size) : win (d.toList.map uC) (i * 1) 1 = [uC d[i]!] := by
 rw [Nat.mul_one, win, List.map_drop.symm, List.map_take.symm, List.drop_eq_getElem_cons (by simpa using hi)]
 simp [hi]
theorem zag {d : Array Int} {i : Nat} (hi : i < d.size) (z : Int) : setW (d.toList.map uC) (i * 1) [uC z] = (d.setIfInBounds i z).toList.map uC := by
 rw [Nat.mul_one]
 refine List.ext_getElem? fun j => ?_
 rw [zak (by simp; omega)]
 simp only [List.length_cons, List.length_nil, Array.toList_setIfInBounds, List.map_set, List.getElem?_set]
 by_cases hj : i = j
 ·subst hj; simp [hi]
 ·rw [if_neg (by omega), if_neg hj]
theorem zps {d : Array Int} {i j : Nat} (hi : i < d.size) (hj : j < d.size) : setW (setW (d.toList.map uC) (i * 1) [uC d[j]!]) (j * 1) [uC d[i]!] = (swp d i j).toList.map uC := by
 rw [zag hi, zag (by simpa using hj)]; rfl
theorem zaR {d : Array Int} {i j : Nat} {h : Heap} (hi : i < d.size) (hj : j < d.size) {id : Nat} (hl : look h id = some (.row 44 1 d.size (setW (setW (d.toList.map uC) (i * 1) [uC d[j]!]) (j * 1) [uC d[i]!]))) : look h id = some (uR (swp d i j)) := by
 rw [hl, zps hi hj, uR, size_swp]
attribute [local irreducible] AWp AOps AQ AYield AEff ACall AWk AAny AAt AThen AIn APost NoPanic
theorem zna (x : Int) : ACall Tryz.prog 163 [uvA x] [] (Just (boolA false)) := by
 refine zf za Tryz.func163 rfl Tryz.ntmps163 (congrArg Array.toList Tryz.results163) (by kernel_rfl) rfl ?_
 have hx : (x != x) = false := by simp
 repeat (first | refine q_Y ?_ | ((first | apply q_K rfl | apply q_X rfl); (first | exact q_H | (exact ziC rfl rfl rfl rfl hx))) | refine q_U ?_)
 exact zk rfl ⟨rfl, rfl⟩
theorem zaS (x y : Int) : ACall Tryz.prog 154 [uvA x, uvA y] [] (Just (boolA (ltInt x y))) := by
 refine zf za Tryz.func154 rfl Tryz.ntmps154 (congrArg Array.toList Tryz.results154) (by kernel_rfl) rfl ?_
 repeat (first | refine q_Y ?_ | ((first | apply q_K rfl | apply q_X rfl); (exact q_H)) | refine q_U ?_ | refine O_c rfl rfl rfl rfl rfl (zna x) (fun _ => rfl) ?_)
 exact zk rfl ⟨rfl, rfl⟩
end Go.Proofs.YtmmdkjanmegjdaaGreat.Ab

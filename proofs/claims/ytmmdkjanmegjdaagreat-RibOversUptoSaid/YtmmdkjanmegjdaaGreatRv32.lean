/-
 Texts of a proof, one behind the other (part 33).
-/
import Derived.Test.YtmmdkjanmegjdaaGreatRv1
import Derived.Test.YtmmdkjanmegjdaaGreatRv2
import Derived.Test.YtmmdkjanmegjdaaGreatRv4
import Derived.Test.YtmmdkjanmegjdaaGreatRv17
import Derived.Test.YtmmdkjanmegjdaaGreatRv18
import Derived.Test.YtmmdkjanmegjdaaGreatRv19
import Derived.Test.YtmmdkjanmegjdaaGreatRv29
import Derived.Test.YtmmdkjanmegjdaaGreatRv31
set_option maxRecDepth 100000
set_option linter.unusedSimpArgs false
set_option linter.unusedVariables false
namespace Go.Proofs.YtmmdkjanmegjdaaGreat
instance : Inhabited Rte := ⟨⟨⟨0, 0⟩, 0, 0, 0, 0, [], 0, false⟩⟩
def rteV (r : Rte) : List Value := [.int .u32 r.p.a, .int .i64 r.p.b, .int .u8 r.f, .int .i64 r.d, .int .i64 r.m, .int .i64 r.t, .string ⟨⟨r.i⟩⟩, .int .u32 r.h, .bool r.x]
theorem ordR_eq' (x y : Rte) (h : ordR x y = 0) : x = y := (zfx x y).1 h
section
open Go.RowKit Go.Sort Go.Lib
theorem insNilR (c : Value) (w : World) : Calls Tryz.prog 104 #[.slice none 0 0, .int .i64 0, .int .i64 0, c] w (RetS w (.tuple #[])) := by
 go_enter Tryz.func104, Tryz.ntmps104
 go_wp2_with fail
 refine wp_loop_rounds 1 ?_
 rw [rounds_succ]; go_wp2_with fail
 go_end0
 exact ⟨rfl, rfl⟩
theorem pdqNilR (c : Value) (w : World) (n : Int) : Calls Tryz.prog 67 #[.slice none 0 0, .int .i64 0, .int .i64 0, .int .i64 n, c] w (RetS w (.tuple #[])) := by
 go_enter Tryz.func67, Tryz.ntmps67
 go_wp2_with fail
 refine wp_loop_rounds 1 ?_
 rw [rounds_succ]; go_wp2_with fail
 refine (insNilR c _).mono ?_
 rintro e w' ⟨rfl, rfl⟩
 go_wp2_with fail
 go_end0
 exact ⟨rfl, rfl⟩
theorem sortNilR (c : Value) (w : World) : Calls Tryz.prog 43 #[.slice none 0 0, c] w (RetS w (.tuple #[])) := by
 have hl := fun W => Any.bits_Len (SlLaysF0.n15.bits (P := _) (ρ := _) { Tryz.sortRoute with }) (0 : Int) W (by omega) (by omega)
 go_enter Tryz.func43, Tryz.ntmps43
 go_wp2_with fail
 refine (hl _).mono ?_
 rintro e w' ⟨rfl, rfl⟩
 go_wp2_with fail
 refine (pdqNilR c _ _).mono ?_
 rintro e w' ⟨rfl, rfl⟩
 go_wp2_with fail
 go_end0
 exact ⟨rfl, rfl⟩
end
namespace Ab
open Go.RowKit Go.Lib
attribute [local irreducible] AWp AOps AQ AYield AEff ACall AWk AAny AAt AThen AIn APost NoPanic
def rteB (l : List Rte) : ABlk := .row 58 9 l.length (l.flatMap rteD)
theorem rteEq (x y : Rte) : eqCells (rteV x) (rteV y) = some (x == y) := by
 obtain ⟨⟨a, b⟩, f, d, m, t, i, h, q⟩ := x
 obtain ⟨⟨a', b'⟩, f', d', m', t', i', h', q'⟩ := y
 simp only [rteV, eqCells, eqV, if_true, zdU, Bool.and_true, Option.some.injEq]
 rw [Bool.eq_iff_iff]
 simp only [Bool.and_eq_true, beq_iff_eq, Rte.mk.injEq, Pfx.mk.injEq, and_assoc]
theorem zmE (l : List Rte) (hn : l.length ≤ 2147483648) : ACall Tryz.prog 43 [.row 1000, .fn 44 []] [(1000, rteB l)] (fun c h => c = .tup [] ∧ h = [(1000, rteB (srt ordR l))]) := by
 have := sortG (α := Rte) Tryz.sortRoute (f := 43) (el := 58) (k := 9) rfl (by kernel_rfl) (fun W => Tryz.isAgg58 W) (fun W => Tryz.sizeOf58 W) (enc := rteV) (fun _ => rfl)
  (fun x v hv => by simp [rteV] at hv; rcases hv with rfl | rfl | rfl | rfl | rfl | rfl | rfl | rfl | rfl <;> rfl) (eA := rteA) (fun _ => rfl) (fun _ => rfl) (eD := rteD) (fun _ => rfl) zbd ordR_eq' (g := 44) zgM (fun w => (sortNilR _ w).mono fun e w' h => ⟨h.1, h.2.symm⟩) l hn
 unfold rteB
 rw [zbC]
 exact this
theorem znu (l : List Rte) (hl : l.length ≤ 2147483648) : ACall Tryz.prog 42 [rtesA l] [] (fun c h => c = .row 5 ∧ h = [(5, rteB l)]) := by
 refine zf za Tryz.func42 rfl Tryz.ntmps42 (congrArg Array.toList Tryz.results42) (by kernel_rfl) rfl ?_
 have hfl : (l.flatMap rteD).length = l.length * 9 := zM zr l
 repeat (first | refine q_Y ?_ | ((first | apply q_K rfl | apply q_X rfl); (exact q_H)) | refine q_U ?_ | (refine zi4 za rfl rfl rfl rfl rfl rfl ?_; intro b hb))
 cases b with
 | true =>
  have : l = [] := List.eq_nil_of_length_eq_zero (hb rfl).2
  subst this
  repeat (first | refine q_Y ?_ | ((first | apply q_K rfl | apply q_X rfl); (exact q_H)) | refine q_U ?_)
  exact zo (zbn 58 9 (t := 2) (id := 5) rfl rfl) rfl (h2 := [(5, rteB [])]) ⟨rfl, trivial⟩ ⟨rfl, rfl⟩
 | false =>
  repeat (first | refine q_Y ?_ | ((first | apply q_K rfl | apply q_X rfl); (exact q_H)) | refine q_U ?_ | (first | refine zcM za rfl rfl rfl rfl rfl rfl rfl ?_ | (first | refine zaE za rfl rfl rfl rfl rfl rfl rfl rfl rfl rfl rfl (by first | exact Src.row rfl | exact Src.dat _ _ | exact Src.nil) hfl (by omega) ?_ | refine zaF za rfl rfl rfl rfl rfl rfl rfl rfl rfl rfl (by first | exact Src.row rfl | exact Src.dat _ _ | exact Src.nil) hfl (by omega) ?_)))
  exact zo AWk.refl rfl (h2 := [(5, rteB l)]) ⟨by rw [Nat.zero_add]; rfl, trivial⟩ ⟨rfl, rfl⟩
structure Cpt (l m : List Rte) (k q : Nat) : Prop where
 len : m.length = l.length
 q1 : q ≤ l.length
 kq : k < q
 k0 : 0 < k
 front : m.take k = dedA (l.take q)
 back : ∀ i, q ≤ i + 1 → m[i]? = l[i]?
theorem zlK {l m : List Rte} {k q : Nat} (C : Cpt l m k q) (h : q < l.length) (he : l[q - 1]'(by omega) = l[q]) : Cpt l m k (q + 1) := by
 have := C.kq
 have := C.k0
 refine ⟨C.len, by omega, by omega, C.k0, ?_, fun i hi => C.back i (by omega)⟩
 rw [zbx l q (by omega) h, if_pos he, C.front]
theorem znq {l m : List Rte} {k q : Nat} (C : Cpt l m k q) (h : q < l.length) (he : l[q - 1]'(by omega) ≠ l[q]) : Cpt l (m.set k l[q]) (k + 1) (q + 1) := by
 have h1 := C.kq
 have h2 := C.k0
 have h3 := C.len
 refine ⟨by rw [List.length_set, h3], by omega, by omega, by omega, ?_, fun i hi => ?_⟩
 ·rw [zbx l q (by omega) h, if_neg he, ← C.front, List.take_succ_eq_append_getElem (by rw [List.length_set]; omega), List.getElem_set_self, List.take_set_of_le (Nat.le_refl _)]
 ·rw [List.getElem?_set_ne (by omega)]
  exact C.back i (by omega)
theorem zb0 (l : List Rte) (k : Nat) (h : k < l.length) : win (l.flatMap rteD) (k * 9) 9 = rteD l[k] := zn zr l k 9 h (by decide)
theorem zgy (l : List Rte) (a b : Nat) (h : a + b < l.length) : win (l.flatMap rteD) (a * 9 + b * 9) 9 = rteD l[a + b] := by rw [← Nat.add_mul]; exact zb0 l (a + b) h
set_option maxHeartbeats 8000000 in
theorem zjV (l : List Rte) (hn : l.length ≤ 2147483648) : ACall Tryz.prog 45 [.row 1000] [(1000, rteB l)] (fun c h => c = .row 100 ∧ h = [(100, rteB (dedA l))]) := by
 refine zf za Tryz.func45 rfl Tryz.ntmps45 (congrArg Array.toList Tryz.results45) (by kernel_rfl) rfl ?_
 refine zt (zfN (id := 100) (t := 0) rfl rfl) ?_
 by_cases h2 : l.length < 2
 ·have hd : dedA l = l := by match l, h2 with | [], _ => rfl | [x], _ => rfl
  rw [hd]
  repeat (first | refine q_Y ?_ | ((first | apply q_K rfl | apply q_X rfl); (exact q_H)) | refine q_U ?_)
  exact zo AWk.refl rfl (h2 := [(100, rteB l)]) ⟨rfl, trivial⟩ ⟨rfl, rfl⟩
 ·
  repeat (first | refine q_Y ?_ | ((first | apply q_K rfl | apply q_X rfl); (exact q_H)) | refine q_U ?_)
  refine zw (fun k : Nat => [(0, .row 100), (3, intA (k : Int))]) (fun _ => [(100, rteB l)]) (fun k => 1 ≤ k ∧ k ≤ l.length ∧ dedA (l.take k) = l.take k) (fun k => l.length - k) 1 ⟨by omega, by omega, ?_⟩ (q_S) ?_
  ·match l with
   | [] => rfl
   | x :: r => rfl
  rintro k ⟨hk1, hk2, hd⟩
  dsimp only
  by_cases hlt : k < l.length
  ·have hlt1 : k - 1 < l.length := by omega
   have hk' : ((k : Int) - 1) = ((k - 1 : Nat) : Int) := by omega
   have heq := rteEq l[k] l[k - 1]
   have hw0 := zb0 l k hlt
   have hw1 := zb0 l (k - 1) hlt1
   by_cases he : l[k] = l[k - 1]
   ·rw [show (l[k] == l[k - 1]) = true by simpa using he] at heq
    repeat (first | refine q_Y ?_ | ((first | apply q_K rfl | apply q_X rfl); (first | exact q_H | (first | exact zi za rfl rfl rfl rfl rfl rfl hk' hlt1 | exact zg za rfl rfl rfl rfl rfl rfl hw0 rfl rfl | exact zg za rfl rfl rfl rfl rfl rfl hw1 rfl rfl | exact Y_eq za zap rfl rfl rfl rfl rfl rfl rfl rfl rfl (by kernel_rfl) heq rfl | exact za3 za rfl rfl rfl rfl rfl rfl rfl (Nat.le_of_lt hlt)))) | refine q_U ?_)
    refine zw (fun x : Nat × Nat × List Rte => [(0, .row 100), (3, intA (x.1 : Int)), (4, .srow 100 (k * 9) (l.length - k)), (5, intA (x.2.1 : Int))]) (fun x => [(100, rteB x.2.2)]) (fun x => 1 ≤ x.2.1 ∧ Cpt l x.2.2 x.1 (k + x.2.1)) (fun x => l.length - x.2.1) (k, 1, l) ⟨Nat.le_refl _, rfl, hlt, Nat.lt_succ_self k, hk1, ?_, fun _ _ => rfl⟩ (q_S) ?_
    ·rw [zbx l k hk1 hlt, if_pos he.symm, hd]
    rintro ⟨K, j, m⟩ ⟨hj, C⟩
    dsimp only at hj C ⊢
    have c1 := C.len
    have c2 := C.q1
    have c3 := C.kq
    have c4 := C.k0
    by_cases hq : k + j < l.length
    ·have hjk : j < l.length - k := by omega
     have hjk1 : j - 1 < l.length - k := by omega
     have hj' : ((j : Int) - 1) = ((j - 1 : Nat) : Int) := by omega
     have e1 : m[k + j]'(by omega) = l[k + j] := by
      have := C.back (k + j) (by omega)
      rw [List.getElem?_eq_getElem (by omega), List.getElem?_eq_getElem hq] at this
      exact Option.some.inj this
     have e2 : m[k + (j - 1)]'(by omega) = l[k + j - 1] := by
      have := C.back (k + (j - 1)) (by omega)
      rw [List.getElem?_eq_getElem (by omega), List.getElem?_eq_getElem (show k + (j - 1) < l.length by omega)] at this
      rw [Option.some.inj this]
      congr 1
      omega
     have hw2 := zgy m k j (by omega)
     have hw3 := zgy m k (j - 1) (by omega)
     rw [e1] at hw2
     rw [e2] at hw3
     have heq2 := rteEq l[k + j] l[k + j - 1]
     by_cases hs : l[k + j - 1] = l[k + j]
     ·rw [show (l[k + j] == l[k + j - 1]) = true by simpa using hs.symm] at heq2
      repeat (first | refine q_Y ?_ | ((first | apply q_K rfl | apply q_X rfl); (first | exact q_H | (first | exact zd9 za rfl rfl rfl rfl | exact zaN za rfl rfl rfl rfl rfl rfl rfl hjk | exact zaN za rfl rfl rfl rfl rfl rfl rfl hjk1 | exact zaN za rfl rfl rfl rfl rfl rfl hj' hjk1 | exact zg za rfl rfl rfl rfl rfl rfl hw2 rfl rfl | exact zg za rfl rfl rfl rfl rfl rfl hw3 rfl rfl | exact Y_eq za zap rfl rfl rfl rfl rfl rfl rfl rfl rfl (by kernel_rfl) heq2 rfl))) | refine q_U ?_)
      exact ⟨(K, j + 1, m), ⟨by dsimp only; omega, by dsimp only; exact zlK C hq hs⟩, by dsimp only; omega, q_S⟩
     ·rw [show (l[k + j] == l[k + j - 1]) = false by simpa using fun h => hs h.symm] at heq2
      have hKm : K < m.length := by omega
      have hfl : (m.flatMap rteD).length = m.length * 9 := zM zr m
      repeat (first | refine q_Y ?_ | ((first | apply q_K rfl | apply q_X rfl); (first | exact q_H | (first | exact zd9 za rfl rfl rfl rfl | exact zaN za rfl rfl rfl rfl rfl rfl rfl hjk | exact zaN za rfl rfl rfl rfl rfl rfl rfl hjk1 | exact zaN za rfl rfl rfl rfl rfl rfl hj' hjk1 | exact zg za rfl rfl rfl rfl rfl rfl hw2 rfl rfl | exact zg za rfl rfl rfl rfl rfl rfl hw3 rfl rfl | exact Y_eq za zap rfl rfl rfl rfl rfl rfl rfl rfl rfl (by kernel_rfl) heq2 rfl | exact zi za rfl rfl rfl rfl rfl rfl rfl hKm))) | refine q_U ?_ | (refine zcL za rfl rfl rfl rfl rfl rfl rfl rfl rfl rfl (by rw [hfl]; omega) (by omega) ?_))
      exact ⟨(K + 1, j + 1, m.set K l[k + j]), ⟨by dsimp only; omega, by dsimp only; exact znq C hq hs⟩, by dsimp only; omega, zm ⟨rfl, rfl, rfl, rfl, trivial⟩ ⟨zah (by dsimp only; rw [List.length_set]) (zha zr m K l[k + j] hKm) rfl, trivial⟩⟩
    ·have hK : K ≤ m.length := by omega
     have hq2 : k + j = l.length := by omega
     have hfl : (m.flatMap rteD).length = m.length * 9 := zM zr m
     have hjl : ¬ ((j : Int) < ((l.length - k : Nat) : Int)) := by omega
     repeat (first | refine q_Y ?_ | ((first | apply q_K rfl | apply q_X rfl); (first | exact q_H | (first | exact zd9 za rfl rfl rfl rfl | exact za3 za rfl rfl rfl rfl rfl rfl rfl hK))) | refine q_U ?_)
     refine zi5 za rfl rfl rfl rfl rfl rfl rfl rfl (by rw [Nat.sub_mul]; have := Nat.mul_le_mul_right 9 hK; omega) fun zs hzs => ?_
     repeat (first | refine q_Y ?_ | ((first | apply q_K rfl | apply q_X rfl); (exact q_H)) | refine q_U ?_ | (refine zi3 za rfl rfl rfl rfl rfl rfl rfl rfl rfl rfl rfl hK ?_))
     have hfr : (setW (m.flatMap rteD) (K * 9) zs).take (K * 9) = (dedA l).flatMap rteD := by
      unfold setW
      rw [List.take_append_of_le_length (by rw [List.length_append, List.length_take, hfl]; have := Nat.mul_le_mul_right 9 hK; omega), List.take_append_of_le_length (by rw [List.length_take, hfl]; have := Nat.mul_le_mul_right 9 hK; omega), List.take_take, Nat.min_self, zcX zr, C.front, hq2, List.take_length]
     have hlK : K = (dedA l).length := by
      have := congrArg List.length C.front
      rw [hq2, List.take_length, List.length_take] at this
      omega
     exact zo AWk.refl rfl (h2 := [(100, rteB (dedA l))]) ⟨zah hlK hfr rfl, trivial⟩ ⟨rfl, rfl⟩
   ·rw [show (l[k] == l[k - 1]) = false by simpa using he] at heq
    repeat (first | refine q_Y ?_ | ((first | apply q_K rfl | apply q_X rfl); (first | exact q_H | (first | exact zi za rfl rfl rfl rfl rfl rfl hk' hlt1 | exact zg za rfl rfl rfl rfl rfl rfl hw0 rfl rfl | exact zg za rfl rfl rfl rfl rfl rfl hw1 rfl rfl | exact Y_eq za zap rfl rfl rfl rfl rfl rfl rfl rfl rfl (by kernel_rfl) heq rfl))) | refine q_U ?_)
    exact ⟨k + 1, ⟨by omega, by omega, by rw [zbx l k hk1 hlt, if_neg fun h => he h.symm, hd, ← List.take_succ_eq_append_getElem hlt]⟩, by omega, q_S⟩
  ·have : k = l.length := by omega
   subst this
   rw [List.take_length] at hd
   rw [hd]
   repeat (first | refine q_Y ?_ | ((first | apply q_K rfl | apply q_X rfl); (exact q_H)) | refine q_U ?_)
   exact zo AWk.refl rfl (h2 := [(100, rteB l)]) ⟨rfl, trivial⟩ ⟨rfl, rfl⟩
end Ab
end Go.Proofs.YtmmdkjanmegjdaaGreat

namespace Go.Proofs.YtmmdkjanmegjdaaGreat.Ab
open Go.RowKit
def fn0 (f : FuncId) : AVal := .d (.sc (.func (.func f) #[] #[]))
section
variable {P : Program} {nt : Nat} {Q : Post} {e : Env} {h : Heap} {ops : Array Oper} {o : Oper} {rest : List Oper} {T : List Nat} {tab : TTab} {fuel i : Nat} {listed : Array Bool}
theorem zmn {f : FuncId} {x : Operand} {args : Array Operand} {ats : Array TypeId} {cs : List AVal} {d : Option Tmp} {c : AVal} (ho : o.op = .call { callee := .value x, args := args, argTypes := ats }) (hdst : o.dst = d) (hf : aev e x = some (fn0 f)) (hx : aevs e args.toList = some cs)
  (H : ACall P f cs [] (fun c' h' => c' = c ∧ h' = [])) (hd : dstOk nt d = true) (hc : ∀ j, c.has j = false) : AEff P nt T e h o (fun e' h' => e' = aput d c e ∧ h' = h) := fun Pm F w0 pin ι a w R K Qx hK => by
 have hfv := zj R.env hf
 have hau : a.eval x = .func (.func f) #[] #[] := (zQ hfv).1
 unfold Oper.wp
 rw [zdS H.1 ho hau, Oper.upon_enter, hdst]
 have hF : ∀ r, Fc F ι r → r < w.heap.size := fun r hr => hr.elim (fun h1 => Nat.lt_of_lt_of_le (R.heap.forb r h1) R.heap.size) fun ⟨id, v, h1, h2⟩ => R.heap.lt h1 h2
 have hA := zbD R.env hx
 have hA2 : ArgsRel w F ι cs (args.map a.eval ++ #[]) := by simpa using hA
 refine (H.2 _ _ w _ _ _ w (HRel.none (Fc F ι) w hF) (zgg hA2)).mono ?_
 rintro y w' ⟨u, c', h', ι', rfl, ⟨rfl, rfl⟩, hH, hv⟩
 obtain ⟨ι2, hR, hC⟩ := R.called (T := T) hH hv (by rfl) (fun _ _ _ h => (by cases h)) (fun j hj => by rw [hc] at hj; cases hj) hd
 rw [List.map_nil, zco, zcn, List.nil_append] at hR
 exact hK _ _ _ _ _ ⟨rfl, rfl⟩ hR hC (zl _ _ _)
theorem zfO {f : FuncId} {x : Operand} {args : Array Operand} {ats : Array TypeId} {cs : List AVal} {d : Nat} {c : AVal} (hi : ops[i]? = some o) (hw : awant ops e o = some true) (hdst : o.dst = some d) (hd : Nat.blt d nt = true) (ho : o.op = .call { callee := .value x, args := args, argTypes := ats }) (hf : aev e x = some (fn0 f)) (hx : aevs e args.toList = some cs)
  (H : ACall P f cs [] (fun c' h' => c' = c ∧ h' = [])) (hc : ∀ j, c.has j = false) (HK : AAny P nt ops Q T fuel (listed.setIfInBounds i true) ((d, c) :: e) h) : AAt P nt ops Q T fuel listed i e h :=
 za5 hi hw (zmn (d := some d) ho hdst hf hx H hd hc) fun e' h' ⟨h1, h2⟩ => by subst h1 h2; exact HK
end
end Go.Proofs.YtmmdkjanmegjdaaGreat.Ab

namespace Go.Proofs.YtmmdkjanmegjdaaGreat.Ab
open Go.RowKit

def pfxV (p : Pfx) : Value := .agg #[.int .u32 p.a, .int .i64 p.b]
theorem zq (p : Pfx) : valA (pfxA p) = some (pfxV p) := rfl
theorem zbN (p : Pfx) (w : World) (F : Nat → Prop) (ι : Nat → Option Value) : VRel w F ι (pfxA p) (pfxV p) := zaJ _ _ _ _ _ rfl rfl
theorem ziT (b : Bool) (n : Nat) (t : TypeId) (q : IntKind) (x : Int) (w : World) (ht : Tryz.prog.underlying t = some (.int q)) : (Instr.checkKey b (n + 1) t (.int q x)).run Tryz.prog w = .ok () w := by
 unfold Instr.checkKey
 simp [run_underlying ht]
theorem zkX (p : Pfx) (w : World) : (part 45 #[.int .u32 p.a, .int .i64 p.b] 0).run Tryz.prog w = .ok (.int .u32 p.a) w := by
 have h : tlook tab 45 = some _ := rfl
 unfold part
 simp [(za _ _ h).run_agg]
theorem zkY (p : Pfx) (w : World) : (part 3 #[.int .u32 p.a, .int .i64 p.b] 1).run Tryz.prog w = .ok (.int .i64 p.b) w := by
 have h : tlook tab 3 = some _ := rfl
 unfold part
 simp [(za _ _ h).run_agg]
theorem znv (b : Bool) (k : Pfx) (w : World) (n : Nat) : (Instr.checkKey b (n + 2) 47 (pfxV k)).run Tryz.prog w = .ok () w := by
 unfold Instr.checkKey
 simp [pfxV, run_underlying Tryz.underlying47, zkX, zkY, ziT b n _ _ _ _ Tryz.underlying45, ziT b n _ _ _ _ Tryz.underlying3]
theorem pfxKey : KeyLaw Tryz.prog 47 pfxV (fun _ => True) := by
 refine KeyLaw.of_agg Tryz.underlying47 (fun k => ⟨_, rfl⟩) ?_ ?_ ?_
 ·intro b k w _
  exact znv b k w 9998
 ·intro a b w _ _
  have h := zeb za zap 8 47 _ [.int .u32 a.a, .int .i64 a.b] [.int .u32 b.a, .int .i64 b.b] _ 9999 _ w rfl rfl rfl rfl (pfxEq a b) (by omega)
  have e : (a == b) = decide (a = b) := by rw [Bool.eq_iff_iff]; simp
  rw [e] at h
  exact h
 ·intro a _
  simp [Instr.sameBits, pfxV]
end Go.Proofs.YtmmdkjanmegjdaaGreat.Ab

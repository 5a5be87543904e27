/-
 Texts of a proof, one behind the other (part 21).
-/
import Derived.Shelf.SlGeneric
import Derived.Shelf.Spec.SlicesGrow
import Derived.Test.YtmmdkjanmegjdaaGreatProg
import Derived.Test.YtmmdkjanmegjdaaGreatRv1
import Derived.Test.YtmmdkjanmegjdaaGreatRv4
import Derived.Test.YtmmdkjanmegjdaaGreatRv17
import Derived.Test.YtmmdkjanmegjdaaGreatRv18
import Derived.Test.YtmmdkjanmegjdaaGreatRv19
set_option maxRecDepth 100000
set_option linter.unusedSimpArgs false
set_option linter.unusedVariables false
namespace Go.Proofs.YtmmdkjanmegjdaaGreat
open Go.RowKit Go.Lib
namespace Ab
def uB (l : List Int) : ABlk := .row 44 1 l.length (l.flatMap u1D)
attribute [local irreducible] AWp AOps AQ AYield AEff ACall AWk AAny AAt AThen AIn APost NoPanic
structure CptU (l m : List Int) (k q : Nat) : Prop where
 len : m.length = l.length
 q1 : q ≤ l.length
 kq : k < q
 k0 : 0 < k
 front : m.take k = dedA (l.take q)
 back : ∀ i, q ≤ i + 1 → m[i]? = l[i]?
theorem zjU {l m : List Int} {k q : Nat} (C : CptU l m k q) (h : q < l.length) (he : l[q - 1]'(by omega) = l[q]) : CptU l m k (q + 1) := by
 have := C.kq
 have := C.k0
 refine ⟨C.len, by omega, by omega, C.k0, ?_, fun i hi => C.back i (by omega)⟩
 rw [zbx l q (by omega) h, if_pos he, C.front]
theorem zlL {l m : List Int} {k q : Nat} (C : CptU l m k q) (h : q < l.length) (he : l[q - 1]'(by omega) ≠ l[q]) : CptU l (m.set k l[q]) (k + 1) (q + 1) := by
 have h1 := C.kq
 have h2 := C.k0
 have h3 := C.len
 refine ⟨by rw [List.length_set, h3], by omega, by omega, by omega, ?_, fun i hi => ?_⟩
 ·rw [zbx l q (by omega) h, if_neg he, ← C.front, List.take_succ_eq_append_getElem (by rw [List.length_set]; omega), List.getElem_set_self, List.take_set_of_le (Nat.le_refl _)]
 ·rw [List.getElem?_set_ne (by omega)]
  exact C.back i (by omega)
theorem zfS (l : List Int) (k : Nat) (h : k < l.length) : win (l.flatMap u1D) (k * 1) 1 = u1D l[k] := zn zV l k 1 h (by decide)
theorem zfm (l : List Int) (a b : Nat) (h : a + b < l.length) : win (l.flatMap u1D) (a * 1 + b * 1) 1 = u1D l[a + b] := by rw [← Nat.add_mul]; exact zfS l (a + b) h
set_option maxHeartbeats 8000000 in
theorem zig (l : List Int) (hn : l.length ≤ 2147483648) : ACall Tryz.prog 127 [.row 1000] [(1000, uB l)] (fun c h => c = .row 100 ∧ h = [(100, uB (dedA l))]) := by
 refine zf za Tryz.func127 rfl Tryz.ntmps127 (congrArg Array.toList Tryz.results127) (by kernel_rfl) rfl ?_
 refine zt (zfN (id := 100) (t := 0) rfl rfl) ?_
 by_cases h2 : l.length < 2
 ·have hd : dedA l = l := by match l, h2 with | [], _ => rfl | [x], _ => rfl
  rw [hd]
  repeat (first | refine q_Y ?_ | ((first | apply q_K rfl | apply q_X rfl); (exact q_H)) | refine q_U ?_)
  exact zo AWk.refl rfl (h2 := [(100, uB l)]) ⟨rfl, trivial⟩ ⟨rfl, rfl⟩
 ·
  repeat (first | refine q_Y ?_ | ((first | apply q_K rfl | apply q_X rfl); (exact q_H)) | refine q_U ?_)
  refine zw (fun k : Nat => [(0, .row 100), (3, intA (k : Int))]) (fun _ => [(100, uB l)]) (fun k => 1 ≤ k ∧ k ≤ l.length ∧ dedA (l.take k) = l.take k) (fun k => l.length - k) 1 ⟨by omega, by omega, ?_⟩ (q_S) ?_
  ·match l with
   | [] => rfl
   | x :: r => rfl
  rintro k ⟨hk1, hk2, hd⟩
  dsimp only
  by_cases hlt : k < l.length
  ·have hlt1 : k - 1 < l.length := by omega
   have hk' : ((k : Int) - 1) = ((k - 1 : Nat) : Int) := by omega
   have hw0 := zfS l k hlt
   have hw1 := zfS l (k - 1) hlt1
   by_cases he : l[k] = l[k - 1]
   ·
    repeat (first | refine q_Y ?_ | ((first | apply q_K rfl | apply q_X rfl); (first | exact q_H | (first | exact zi za rfl rfl rfl rfl rfl rfl hk' hlt1 | exact zg za rfl rfl rfl rfl rfl rfl hw0 rfl rfl | exact zg za rfl rfl rfl rfl rfl rfl hw1 rfl rfl | exact za3 za rfl rfl rfl rfl rfl rfl rfl (Nat.le_of_lt hlt)))) | refine q_U ?_)
    refine zw (fun x : Nat × Nat × List Int => [(0, .row 100), (3, intA (x.1 : Int)), (4, .srow 100 (k * 1) (l.length - k)), (5, intA (x.2.1 : Int))]) (fun x => [(100, uB x.2.2)]) (fun x => 1 ≤ x.2.1 ∧ CptU l x.2.2 x.1 (k + x.2.1)) (fun x => l.length - x.2.1) (k, 1, l) ⟨Nat.le_refl _, rfl, hlt, Nat.lt_succ_self k, hk1, ?_, fun _ _ => rfl⟩ (q_S) ?_
    ·rw [zbx l k hk1 hlt, if_pos he.symm, hd]
    rintro ⟨K, j, m⟩ ⟨hj, C⟩
    dsimp only at hj C ⊢
    have c1 := C.len
    have c2 := C.q1
    have c3 := C.kq
    have c4 := C.k0
    by_cases hq : k + j < l.length
    ·have hjk : j < l.length - k := by omega
     have hjk1 : j - 1 < l.length - k := by omega
     have hj' : ((j : Int) - 1) = ((j - 1 : Nat) : Int) := by omega
     have e1 : m[k + j]'(by omega) = l[k + j] := by
      have := C.back (k + j) (by omega)
      rw [List.getElem?_eq_getElem (by omega), List.getElem?_eq_getElem hq] at this
      exact Option.some.inj this
     have e2 : m[k + (j - 1)]'(by omega) = l[k + j - 1] := by
      have := C.back (k + (j - 1)) (by omega)
      rw [List.getElem?_eq_getElem (by omega), List.getElem?_eq_getElem (show k + (j - 1) < l.length by omega)] at this
      rw [Option.some.inj this]
      congr 1
      omega
     have hw2 := zfm m k j (by omega)
     have hw3 := zfm m k (j - 1) (by omega)
     rw [e1] at hw2
     rw [e2] at hw3
     by_cases hs : l[k + j - 1] = l[k + j]
     ·
      repeat (first | refine q_Y ?_ | ((first | apply q_K rfl | apply q_X rfl); (first | exact q_H | (first | exact zd9 za rfl rfl rfl rfl | exact zaN za rfl rfl rfl rfl rfl rfl rfl hjk | exact zaN za rfl rfl rfl rfl rfl rfl rfl hjk1 | exact zaN za rfl rfl rfl rfl rfl rfl hj' hjk1 | exact zg za rfl rfl rfl rfl rfl rfl hw2 rfl rfl | exact zg za rfl rfl rfl rfl rfl rfl hw3 rfl rfl))) | refine q_U ?_)
      exact ⟨(K, j + 1, m), ⟨by dsimp only; omega, by dsimp only; exact zjU C hq hs⟩, by dsimp only; omega, q_S⟩
     ·have hKm : K < m.length := by omega
      have hfl : (m.flatMap u1D).length = m.length * 1 := zM zV m
      repeat (first | refine q_Y ?_ | ((first | apply q_K rfl | apply q_X rfl); (first | exact q_H | (first | exact zd9 za rfl rfl rfl rfl | exact zaN za rfl rfl rfl rfl rfl rfl rfl hjk | exact zaN za rfl rfl rfl rfl rfl rfl rfl hjk1 | exact zaN za rfl rfl rfl rfl rfl rfl hj' hjk1 | exact zg za rfl rfl rfl rfl rfl rfl hw2 rfl rfl | exact zg za rfl rfl rfl rfl rfl rfl hw3 rfl rfl | exact zi za rfl rfl rfl rfl rfl rfl rfl hKm))) | refine q_U ?_ | (refine zcL za rfl rfl rfl rfl rfl rfl rfl rfl rfl rfl (by rw [hfl]; omega) (by omega) ?_))
      exact ⟨(K + 1, j + 1, m.set K l[k + j]), ⟨by dsimp only; omega, by dsimp only; exact zlL C hq hs⟩, by dsimp only; omega, zm ⟨rfl, rfl, rfl, rfl, trivial⟩ ⟨zah (by dsimp only; rw [List.length_set]) (zha zV m K l[k + j] hKm) rfl, trivial⟩⟩
    ·have hK : K ≤ m.length := by omega
     have hq2 : k + j = l.length := by omega
     have hfl : (m.flatMap u1D).length = m.length * 1 := zM zV m
     have hjl : ¬ ((j : Int) < ((l.length - k : Nat) : Int)) := by omega
     repeat (first | refine q_Y ?_ | ((first | apply q_K rfl | apply q_X rfl); (first | exact q_H | (first | exact zd9 za rfl rfl rfl rfl | exact za3 za rfl rfl rfl rfl rfl rfl rfl hK))) | refine q_U ?_)
     refine zi5 za rfl rfl rfl rfl rfl rfl rfl rfl (by rw [Nat.sub_mul]; have := Nat.mul_le_mul_right 1 hK; omega) fun zs hzs => ?_
     repeat (first | refine q_Y ?_ | ((first | apply q_K rfl | apply q_X rfl); (exact q_H)) | refine q_U ?_ | (refine zi3 za rfl rfl rfl rfl rfl rfl rfl rfl rfl rfl rfl hK ?_))
     have hfr : (setW (m.flatMap u1D) (K * 1) zs).take (K * 1) = (dedA l).flatMap u1D := by
      unfold setW
      rw [List.take_append_of_le_length (by rw [List.length_append, List.length_take, hfl]; have := Nat.mul_le_mul_right 1 hK; omega), List.take_append_of_le_length (by rw [List.length_take, hfl]; have := Nat.mul_le_mul_right 1 hK; omega), List.take_take, Nat.min_self, zcX zV, C.front, hq2, List.take_length]
     have hlK : K = (dedA l).length := by
      have := congrArg List.length C.front
      rw [hq2, List.take_length, List.length_take] at this
      omega
     exact zo AWk.refl rfl (h2 := [(100, uB (dedA l))]) ⟨zah hlK hfr rfl, trivial⟩ ⟨rfl, rfl⟩
   ·
    repeat (first | refine q_Y ?_ | ((first | apply q_K rfl | apply q_X rfl); (first | exact q_H | (first | exact zi za rfl rfl rfl rfl rfl rfl hk' hlt1 | exact zg za rfl rfl rfl rfl rfl rfl hw0 rfl rfl | exact zg za rfl rfl rfl rfl rfl rfl hw1 rfl rfl))) | refine q_U ?_)
    exact ⟨k + 1, ⟨by omega, by omega, by rw [zbx l k hk1 hlt, if_neg fun h => he h.symm, hd, ← List.take_succ_eq_append_getElem hlt]⟩, by omega, q_S⟩
  ·have : k = l.length := by omega
   subst this
   rw [List.take_length] at hd
   rw [hd]
   repeat (first | refine q_Y ?_ | ((first | apply q_K rfl | apply q_X rfl); (exact q_H)) | refine q_U ?_)
   exact zo AWk.refl rfl (h2 := [(100, uB l)]) ⟨rfl, trivial⟩ ⟨rfl, rfl⟩
end Ab
end Go.Proofs.YtmmdkjanmegjdaaGreat

namespace Go.Proofs.YtmmdkjanmegjdaaGreat.Ab
open Go.RowKit
section
variable {P : Program} {nt : Nat} {Q : Post} {e : Env} {h : Heap} {ops : Array Oper} {o : Oper} {rest : List Oper} {T : List Nat} {tab : TTab} {fuel i : Nat} {listed : Array Bool}
theorem zgw {t el : TypeId} {x y : Operand} {te te' : TE} {d : Option Tmp} {id n : Nat} {z0 : Value} (TO : TabOk P tab) (ho : o.op = .makeSlice t x y) (hdst : o.dst = d) (ht : tlook tab t = some te) (hs : te.sh = .sl el) (hel : tlook tab el = some te') (hz : te'.zero = [z0]) (hk : te'.size = 1) (h1 : z0.oneCell' = true)
  (hx : aev e x = some (.d (.sc (.int .i64 (n : Int))))) (hy : aev e y = some (.d (.sc (.int .i64 (n : Int))))) (hb : Nat.ble te'.bytes 65536 = true) (hn : n ≤ 2147483648) (hid : Nat.blt id 1000 = true) (hd : dstOk nt d = true) :
  AEff P nt T e h o (fun e' h' => e' = aput d (.row id) (killE id e) ∧ h' = (id, .row el 1 n (List.replicate n (.sc z0))) :: killH id h) := fun Pm F w0 pin ι a w R K Qx hK => by
 have hu := (TO t te ht).slice hs
 obtain ⟨z, hz1, hz2, i, hi1, hi2, hi3, hi4⟩ := (TO el te' hel).zero w
 have e1 := (zQ (zj R.env hx)).1
 have e2 := (zQ (zj R.env hy)).1
 have hb := Nat.le_of_ble_eq_true hb
 have w1 : IntKind.i64.wrap (n : Int) = (n : Int) := zaL ⟨by omega, by omega⟩
 have hbc : te'.bytes * n ≤ 65536 * 2147483648 := Nat.mul_le_mul hb hn
 have hbc2 : (te'.bytes : Int) * (n : Int) ≤ 281474976710656 := by
  have : ((te'.bytes * n : Nat) : Int) ≤ 281474976710656 := by omega
  rw [Int.natCast_mul] at this; omega
 have hti : (typeInfo el).run P w = .ok i w := by simp [typeInfo, hi1]
 have hzc : z.cells = #[z0] := by
  have : z.cells.toList = [z0] := by rw [hz2, hz]
  rw [← Array.toList_inj]; exact this
 have hC : (Array.range (n * 1)).map (fun j => z.cells[j % z.cells.size]!) = Array.replicate n z0 := by
  apply Array.ext
  ·simp
  ·intro j h1 h2
   simp [hzc, Nat.mod_one]
 have hbr : ∀ ι', ι' = upd ι id (some (.slice (some ⟨w.heap.size, 0, none⟩) n n)) → Ext w F ι (w.alloc (.cells (Array.replicate n z0) el)) ι' → BRel (w.alloc (.cells (Array.replicate n z0) el)) F ι' (.row el 1 n (List.replicate n (.sc z0))) (.slice (some ⟨w.heap.size, 0, none⟩) n n) := fun ι' h0 he => by
  refine ⟨List.replicate n z0, ⟨by simp, .inr ⟨w.heap.size, n, _, rfl, Nat.zero_le _, zbg _ _, Nat.le_refl _, by unfold maxLen; omega, by simp, by simp⟩⟩, by simp, fun j c u h1' h2' => ?_⟩
  rw [List.getElem?_replicate] at h1' h2'
  split at h1'
  ·rename_i hlt
   rw [if_pos hlt] at h2'
   cases h1'; cases h2'
   exact .sc z0 h1
  ·cases h1'
 obtain ⟨hR, hCC⟩ := R.new (T := T) hid hd (.cells (Array.replicate n z0) el) (.slice (some ⟨w.heap.size, 0, none⟩) n n) (by simp [blockOf]) _ (.row id) hbr fun ι' h1 => .row id _ rfl fun v hv => by subst h1; simp [upd] at hv; exact hv
 have hrun : (execOp a.eval o).run P w = .ok (.value (.slice (some ⟨w.heap.size, 0, none⟩) n n)) (w.alloc (.cells (Array.replicate n z0) el)) := by
  have n1 : ¬ ((decide ((n : Int) < 0) || decide ((te'.bytes : Int) * (n : Int) > 2 ^ 48)) = true ∨ (n : Int) < 0 ∨ (n : Int) > (n : Int)) := by
   rintro (h1 | h1 | h1)
   ·simp only [Bool.or_eq_true, decide_eq_true_eq] at h1
    omega
   ·omega
   ·omega
  simp only [execOp, ho, e1, e2]
  simp only [Instr.makeSlice, Sem.run_bind, run_underlying hu, Result.andThen_ok, asInt, asIntOf, Sem.run_pure, hti, hi4, w1]
  rw [if_neg (by simpa using n1)]
  simp only [Sem.run_bind, run_askRoom, Result.andThen_ok, (TO el te' hel).size, hk, Int.toNat_natCast, Sem.run_pure]
  by_cases h00 : n * 1 = 0
  ·rw [if_pos h00]
   have hn0 : n = 0 := by omega
   subst hn0
   have hr0 : Array.range 0 = #[] := Array.eq_empty_of_size_eq_zero (by simp)
   simp [newRow, newObj, Sem.run, hr0]
  ·rw [if_neg h00]
   rw [Nat.mul_one] at hC ⊢
   simp [hz1, hC, newRow, newObj, Sem.run]
 unfold Oper.wp
 rw [hrun, Oper.upon_value, hdst]
 exact hK _ _ _ _ _ ⟨rfl, rfl⟩ hR hCC (zl _ _ _)
def tzero1 (tab : TTab) (t : Nat) : Option Value := match tlook tab t with
 | some ⟨s, b, _, [z], _⟩ => cond (Nat.beq s 1 && Nat.ble b 65536 && z.oneCell') (some z) none
 | _ => none
theorem zgu {t el d n : Nat} {x y : Operand} {z0 : Value} (TO : TabOk P tab) (hw : awant ops e o = some true) (hdst : o.dst = some d) (hd : Nat.blt d nt = true) (hid : Nat.blt d 1000 = true) (ho : o.op = .makeSlice t x y) (hel : telem tab t = some el) (hz : tzero1 tab el = some z0)
  (hx : aev e x = some (.d (.sc (.int .i64 (n : Int))))) (hy : aev e y = some (.d (.sc (.int .i64 (n : Int))))) (hn : n ≤ 2147483648)
  (HK : AOps P nt ops Q rest ((d, .row d) :: killE d e) ((d, .row el 1 n (List.replicate n (.sc z0))) :: killH d h)) : AOps P nt ops Q (o :: rest) e h := by
 obtain ⟨te, h1, h2⟩ := zy hel
 unfold tzero1 at hz
 split at hz
 ·rename_i s b ag z sh h3
  cases hc : (Nat.beq s 1 && Nat.ble b 65536 && z.oneCell')
  ·rw [hc] at hz; cases hz
  ·rw [hc] at hz; cases hz
   simp only [Bool.and_eq_true] at hc
   exact zat (T := []) hw (zgw (d := some d) TO ho hdst h1 h2 h3 rfl (Nat.eq_of_beq_eq_true hc.1.1) hc.2 hx hy hc.1.2 hn hid hd) fun e' h' ⟨h1, h2⟩ => by subst h1 h2; exact HK
 ·cases hz
inductive CDst (h : Heap) (id el k n : Nat) (cs : List Dat) : AVal → Nat → Nat → Prop where
 | row : CDst h id el k n cs (.row id) 0 n
 | srow (off n1 : Nat) : CDst h id el k n cs (.srow id off n1) off n1
theorem zi7 {t sT el : TypeId} {te te' : TE} {d : Option Tmp} {x y : Operand} {id off1 n1 m n k : Nat} {cs ds : List Dat} {cx : AVal} (TO : TabOk P tab) (ho : o.op = .call { callee := .builtin .copy, args := #[x, y], argTypes := #[t, sT] }) (hdst : o.dst = d)
  (ht : tlook tab t = some te) (hs : te.sh = .sl el) (hel : tlook tab el = some te') (hk : te'.size = k) (hx : aev e x = some cx) (hy : aev e y = some (.d (.sl ds m))) (hb : look h id = some (.row el k n cs)) (D : CDst h id el k n cs cx off1 n1)
  (hm : m ≤ n1) (hl : ds.length = m * k) (h1 : off1 + m * k ≤ n * k) (hd : dstOk nt d = true) (hT : T.contains id = true) :
  AEff P nt T e h o (fun e' h' => e' = aput d (.d (.sc (.int .i64 (m : Int)))) e ∧ h' = (id, .row el k n (setW cs off1 ds)) :: h) := fun Pm F w0 pin ι a w R K Qx hK => by
 subst hk
 obtain ⟨v, hv, xs, hown, hxl, hxr⟩ := R.heap.blk _ _ hb
 have hu := (TO t te ht).slice hs
 have hsz : (P.info? el).map (·.size) = some te'.size := by
  obtain ⟨z, _, _, i, hi, _, hsz, _⟩ := (TO el te' hel).zero w
  rw [hi]; simp [hsz]
 have hrx := zj R.env hx
 have hry := zj R.env hy
 have hcl : cs.length = n * te'.size := by rw [← hxl]; exact hown.1
 obtain ⟨ux, hux⟩ : ∃ ux, a.eval x = ux := ⟨_, rfl⟩
 obtain ⟨uy, huy⟩ : ∃ uy, a.eval y = uy := ⟨_, rfl⟩
 rw [hux] at hrx
 rw [huy] at hry
 have hX : ∃ b1 c1, ux = .slice b1 n1 c1 ∧ (0 < n1 → ∃ g N cap, v = .slice (some ⟨g, 0, none⟩) N cap ∧ b1 = some ⟨g, off1, none⟩) := by
  cases D with
  | row =>
   cases hrx with
   | row _ _ g1 g2 =>
    have := g2 v hv
    subst this
    rcases hown.2 with ⟨q1, q2⟩ | ⟨g0, cap0, cur, q1, _⟩
    ·subst q2; exact ⟨none, 0, q1, fun h => absurd h (by omega)⟩
    ·exact ⟨_, _, q1, fun _ => ⟨_, _, _, q1, rfl⟩⟩
  | srow =>
   cases hrx with
   | srow _ _ _ _ g1 g2 =>
    obtain ⟨b1, c1, h1, _, k1⟩ := g2 v hv
    exact ⟨b1, c1, h1, k1⟩
 obtain ⟨b1, c1, rfl, k1⟩ := hX
 have hY : ∃ b2 c2, uy = .slice b2 m c2 ∧ ∃ vs : List Value, vs.length = ds.length ∧ (0 < m → ∃ b o2, b2 = some ⟨b, o2, none⟩ ∧ ∀ (i : Nat) (u : Value), vs[i]? = some u → w.cell? ⟨b, o2 + i, none⟩ = some u) ∧ (0 < m → ∀ (i : Nat) (c : Dat) (u : Value), ds[i]? = some c → vs[i]? = some u → DRel w (FreeB F ι) c u) := by
  cases hry with
  | d _ _ hh =>
   cases hh with
   | nil => exact ⟨_, _, rfl, [], rfl, fun h => absurd h (by omega), fun h => absurd h (by omega)⟩
   | emp => exact ⟨_, _, rfl, [], rfl, fun h => absurd h (by omega), fun h => absurd h (by omega)⟩
   | sl _ _ b o2 cap vs q1 q2 q3 q4 q5 => exact ⟨_, _, rfl, vs, q2, fun _ => ⟨b, o2, rfl, q4⟩, fun _ => q5⟩
 obtain ⟨b2, c2, rfl, vs, hvl, k2, k3⟩ := hY
 have hmin : Nat.min m n1 = m := Nat.min_eq_left hm
 by_cases h0 : m = 0
 ·subst h0
  have hds : ds = [] := List.eq_nil_of_length_eq_zero (by omega)
  have hrun : (execOp a.eval o).run P w = .ok (.value (goInt 0)) w := by
   simp [execOp, ho, resolve, invoke, builtin, hux, huy, zeJ w t sT o.type el te'.size b1 b2 n1 c1 0 c2 hu hsz hmin]
  unfold Oper.wp
  rw [hrun, Oper.upon_value, hdst]
  refine hK ι _ _ _ _ ⟨rfl, rfl⟩ ?_ ⟨CT.refl T ι w, fun id _ v r hv hr _ => ⟨v, hv, hr⟩⟩ (zl _ _ _)
  refine ⟨?_, R.env.aput hd R.size (zH rfl), by rw [zl]; exact R.defers, by rw [zac]; exact R.size⟩
  rw [hds, zeG]
  refine R.heap.relook fun j => ?_
  by_cases hj2 : id = j
  ·subst hj2; rw [ze, hb]
  ·rw [zc _ _ hj2]
 ·obtain ⟨g, N, cap, hvv, rfl⟩ := k1 (by omega)
  obtain ⟨b, o2, rfl, hcells⟩ := k2 (by omega)
  have hdr := k3 (by omega)
  rcases hown.2 with ⟨q1, _⟩ | ⟨g0, cap0, cur, q1, _, hg, q4, q5, q6, q7⟩
  ·rw [hvv] at q1; cases q1
  rw [hvv] at q1; cases q1
  have hle : n * te'.size ≤ cur.size := by rw [q6]; exact Nat.mul_le_mul_right _ q4
  have hwl : vs.length = Nat.min m n1 * te'.size := by rw [hvl, hl, hmin]
  have hone : ∀ u ∈ vs, u.oneCell' = true := fun u hu => by
   obtain ⟨i, hi⟩ := List.mem_iff_getElem?.1 hu
   have hlt : i < ds.length := by rw [← hvl]; exact (List.getElem?_eq_some_iff.1 hi).1
   exact (hdr i _ u (List.getElem?_eq_getElem hlt) hi).one
  have hcell : ∀ j v, vs[j]? = some v → w.cell? ((⟨b, o2, none⟩ : Addr).add j) = some v := fun j v hj => by
   rw [zcI]; exact hcells j v hj
  have hrun0 := zfs (P := P) w t sT o.type el te'.size g off1 n1 c1 ⟨b, o2, none⟩ m c2 cur el vs hu hsz hg hwl hcell (by rw [hwl, hmin]; omega) hone
  have hrun : (execOp a.eval o).run P w = .ok (.value (goInt m)) (w.setRow g (setW cur.toList off1 vs).toArray) := by
   rw [hmin] at hrun0
   simp only [execOp, ho, resolve, invoke, builtin]
   simp [hux, huy, hrun0]
  obtain ⟨hW, hnew⟩ := zaZ (C' := (setW cur.toList off1 vs).toArray) hg (v := v) (by rw [hvv]; rfl)
  have hown2 := zf4 (off := off1) (news := vs) hg hown.1 q4 q5 q6 q7 (by rw [hwl, hmin]; exact h1)
  unfold Oper.wp
  rw [hrun, Oper.upon_value, hdst]
  refine hK ι _ _ _ _ ⟨rfl, rfl⟩ ?_ ⟨⟨hW.os, hW.tape, hW.output, hW.size, fun r hr hne => hW.mem r hr fun he => hne id (List.contains_iff_mem.1 hT) v hv he⟩, fun id _ v r hv hr _ => ⟨v, hv, hr⟩⟩ (zl _ _ _)
  refine ⟨R.heap.wrote hW hv ⟨_, by rw [hvv]; exact hown2, by rw [zbe _ _ _ (by rw [hvl, hl, hown.1]; omega), zbe _ _ _ (by rw [hl]; omega), hxl], fun i c u h4 h5 => ?_⟩, (R.env.mono fun _ _ _ _ hv' => hv'.wrote hW hv).aput hd R.size (zH rfl), by rw [zl]; exact R.defers.ext (hW.ext hv), by rw [zac]; exact R.size⟩
  rw [zak (by rw [hl]; omega)] at h4
  rw [zak (by rw [hvl, hl, hown.1]; omega), hvl] at h5
  split at h4
  ·rename_i hin
   rw [if_pos hin] at h5
   exact (hdr _ _ _ h4 h5).ext (hW.ext hv).mem (hW.ext hv).free
  ·rename_i hin
   rw [if_neg hin] at h5
   exact (hxr _ _ _ h4 h5).ext (hW.ext hv).mem (hW.ext hv).free
theorem znQ {t sT el d id off1 n1 m n k : Nat} {x y : Operand} {cs ds : List Dat} {cx : AVal} (TO : TabOk P tab) (hw : awant ops e o = some true) (hdst : o.dst = some d) (hd : Nat.blt d nt = true) (ho : o.op = .call { callee := .builtin .copy, args := #[x, y], argTypes := #[t, sT] })
  (hel : telem tab t = some el) (hsz : tsize tab el = some k) (hx : aev e x = some cx) (hy : aev e y = some (.d (.sl ds m))) (D : CDst h id el k n cs cx off1 n1) (hb : look h id = some (.row el k n cs)) (hm : m ≤ n1) (hl : ds.length = m * k) (h1 : off1 + m * k ≤ n * k)
  (HK : AOps P nt ops Q rest ((d, .d (.sc (.int .i64 (m : Int)))) :: e) ((id, .row el k n (setW cs off1 ds)) :: h)) : AOps P nt ops Q (o :: rest) e h := by
 obtain ⟨te, h2, h3⟩ := zy hel
 obtain ⟨te', h4, h5⟩ := zu hsz
 exact zat (T := [id]) hw (zi7 (d := some d) TO ho hdst h2 h3 h4 h5 hx hy hb D hm hl h1 hd (by simp)) fun e' h' ⟨h1, h2⟩ => by subst h1 h2; exact HK
theorem znJ {t sT el d id off1 n1 m n k : Nat} {x y : Operand} {cs ds : List Dat} {cx : AVal} (TO : TabOk P tab) (hi : ops[i]? = some o) (hw : awant ops e o = some true) (hdst : o.dst = some d) (hd : Nat.blt d nt = true) (ho : o.op = .call { callee := .builtin .copy, args := #[x, y], argTypes := #[t, sT] })
  (hel : telem tab t = some el) (hsz : tsize tab el = some k) (hx : aev e x = some cx) (hy : aev e y = some (.d (.sl ds m))) (D : CDst h id el k n cs cx off1 n1) (hb : look h id = some (.row el k n cs)) (hT : T.contains id = true) (hm : m ≤ n1) (hl : ds.length = m * k) (h1 : off1 + m * k ≤ n * k)
  (HK : AAny P nt ops Q T fuel (listed.setIfInBounds i true) ((d, .d (.sc (.int .i64 (m : Int)))) :: e) ((id, .row el k n (setW cs off1 ds)) :: h)) : AAt P nt ops Q T fuel listed i e h := by
 obtain ⟨te, h2, h3⟩ := zy hel
 obtain ⟨te', h4, h5⟩ := zu hsz
 exact za5 hi hw (zi7 (d := some d) TO ho hdst h2 h3 h4 h5 hx hy hb D hm hl h1 hd hT) fun e' h' ⟨h1, h2⟩ => by subst h1 h2; exact HK
end
end Go.Proofs.YtmmdkjanmegjdaaGreat.Ab

namespace Go.Proofs.YtmmdkjanmegjdaaGreat.Ab
open Go.RowKit
section
variable {P : Program} {nt : Nat} {Q : Post} {e : Env} {h : Heap} {ops : Array Oper} {o : Oper} {rest : List Oper} {T : List Nat} {tab : TTab} {fuel i : Nat} {listed : Array Bool}
theorem ACall.reid {f : FuncId} {args : List AVal} {p id el k n : Nat} {ds : List Dat} (hid : Nat.blt id 1000 = true) (H : ACall P f args h (fun c h' => c = .row p ∧ h' = [(p, .row el k n ds)])) : ACall P f args h (fun c h' => c = .row id ∧ h' = [(id, .row el k n ds)]) :=
 ⟨H.1, fun Pm F w0 pin ι0 us w a b => (H.2 Pm F w0 pin ι0 us w a b).mono fun x w' ⟨u, c, h', ι, h1, ⟨h2, h3⟩, H, hv⟩ => by
  subst h2 h3
  have hid' : id < 1000 := by simp [Nat.blt] at hid; omega
  obtain ⟨v, hvv, xs, hown, hxl, hxr⟩ := H.blk p _ (ze _ _ _)
  have hι : ∀ i u, (fun i => if i = id then ι p else none) i = some u → i = id ∧ ι p = some u := fun i u hu => by
   dsimp only at hu
   split at hu
   ·rename_i h; exact ⟨h, hu⟩
   ·cases hu
  have hex : Ext w' F ι w' (fun i => if i = id then ι p else none) := ⟨fun _ _ _ => rfl, fun r _ hf => ⟨hf.1, fun i u hu => hf.2 p u (hι i u hu).2⟩⟩
  refine ⟨u, .row id, _, fun i => if i = id then ι p else none, h1, ⟨rfl, rfl⟩, ⟨fun i b hb => ?_, fun i u hu => ?_, fun i j u u' r hij hi hj => ?_, fun i u r hu => H.pm p u r (hι i u hu).2, H.os, H.tape, H.output, H.size, H.keep, H.fresh, fun i u h1 hu => ?_, fun i u r hu => H.nf p u r (hι i u hu).2, H.forb⟩, ?_⟩
  ·by_cases h1 : id = i
   ·subst h1
    rw [ze] at hb
    cases hb
    exact ⟨v, by simp only [if_true]; exact hvv, xs, hown, hxl, fun i c u h3 h4 => (hxr i c u h3 h4).ext (fun _ _ _ => rfl) fun r hr hf => hex.free r hr hf⟩
   ·rw [zc _ _ h1] at hb; cases hb
  ·obtain ⟨rfl, _⟩ := hι i u hu
   exact ⟨_, ze _ _ _⟩
  ·exact absurd ((hι i u hi).1.trans (hι j u' hj).1.symm) hij
  ·obtain ⟨rfl, _⟩ := hι i u hu
   omega
  ·cases hv with
   | row _ _ g1 g2 => exact .row id u g1 fun v2 hv2 => g2 v2 (hι id v2 hv2).2⟩
end
end Go.Proofs.YtmmdkjanmegjdaaGreat.Ab

namespace Go.Proofs
open Go.Shelf
def Tryz.laysGrow_ren : Go.Shelf.Ren := ⟨fun | 4 => 140 | n => n, fun | 22 => 48 | 25 => 44 | 3 => 3 | 4 => 4 | 9 => 9 | 20 => 20 | 0 => 0 | n => n, fun | n => n⟩
theorem Tryz.laysGrow : Go.Proofs.Lays8.n4 Tryz.prog Tryz.laysGrow_ren := {
 mixed := by kernel_rfl
 f4 := ⟨Tryz.f140.name, by decide, Tryz.func140.trans (congrArg some (by kernel_rfl))⟩
 t0 := Tryz.underlying0
 a0 := Tryz.isAgg0
 z0 := Tryz.sizeOf0
 v0 := Tryz.zeroValue0
 t3 := Tryz.underlying3
 a3 := Tryz.isAgg3
 z3 := Tryz.sizeOf3
 v3 := Tryz.zeroValue3
 t4 := Tryz.underlying4
 a4 := Tryz.isAgg4
 z4 := Tryz.sizeOf4
 v4 := Tryz.zeroValue4
 t9 := Tryz.underlying9
 a9 := Tryz.isAgg9
 z9 := Tryz.sizeOf9
 v9 := Tryz.zeroValue9
 t20 := Tryz.underlying20
 a20 := Tryz.isAgg20
 z20 := Tryz.sizeOf20
 v20 := Tryz.zeroValue20
 t22 := Tryz.underlying48
 a22 := Tryz.isAgg48
 z22 := Tryz.sizeOf48
 v22 := Tryz.zeroValue48 }
end Go.Proofs

/-
  Texts of a proof, one behind the other (part 16).
-/
import Derived.Test.YtenolkolkpfjgaaGreatFt1
import Derived.Test.YtenolkolkpfjgaaGreatFt5
import Derived.Test.YtenolkolkpfjgaaGreatFt8
import Derived.Test.YtenolkolkpfjgaaGreatFt12
import Derived.Test.YtenolkolkpfjgaaGreatFt14
set_option linter.unusedVariables false
set_option linter.unusedSimpArgs false
namespace Go.Proofs.YtenolkolkpfjgaaGreat
set_option linter.unusedVariables false
instance : Inhabited Rte := ⟨⟨⟨0, 0⟩, 0, 0, 0, 0, [], 0, false⟩⟩
def rteV (r : Rte) : List Value := [.int .u32 r.p.a, .int .i64 r.p.b, .int .u8 r.f, .int .i64 r.d, .int .i64 r.m, .int .i64 r.t, .string ⟨⟨r.i⟩⟩, .int .u32 r.h, .bool r.x]
theorem ordR_eq' (x y : Rte) (h : ordR x y = 0) : x = y := (ordR_zero x y).1 h
section
open Go.RowKit Go.Sort Go.Lib
set_option maxRecDepth 100000
theorem insNilR (c : Value) (w : World) : Calls Tryz.prog 107 #[.slice none 0 0, .int .i64 0, .int .i64 0, c] w (RetS w (.tuple #[])) := by
  go_enter Tryz.func107, Tryz.ntmps107
  go_wp2_with fail
  refine wp_loop_rounds 1 ?_
  rw [rounds_succ]; go_wp2_with fail
  go_end0
  exact ⟨rfl, rfl⟩
theorem pdqNilR (c : Value) (w : World) (n : Int) : Calls Tryz.prog 98 #[.slice none 0 0, .int .i64 0, .int .i64 0, .int .i64 n, c] w (RetS w (.tuple #[])) := by
  go_enter Tryz.func98, Tryz.ntmps98
  go_wp2_with fail
  refine wp_loop_rounds 1 ?_
  rw [rounds_succ]; go_wp2_with fail
  refine (insNilR c _).mono ?_
  rintro e w' ⟨rfl, rfl⟩
  go_wp2_with fail
  go_end0
  exact ⟨rfl, rfl⟩
theorem sortNilR (c : Value) (w : World) : Calls Tryz.prog 81 #[.slice none 0 0, c] w (RetS w (.tuple #[])) := by
  have hl := fun W => Any.bits_Len (SlLaysF0.n15.bits (P := _) (ρ := _) { Tryz.sortRoute with }) (0 : Int) W (by omega) (by omega)
  go_enter Tryz.func81, Tryz.ntmps81
  go_wp2_with fail
  refine (hl _).mono ?_
  rintro e w' ⟨rfl, rfl⟩
  go_wp2_with fail
  refine (pdqNilR c _ _).mono ?_
  rintro e w' ⟨rfl, rfl⟩
  go_wp2_with fail
  go_end0
  exact ⟨rfl, rfl⟩
end
namespace Ab
set_option maxRecDepth 100000
open Go.RowKit Go.Lib
set_option linter.unusedSimpArgs false
attribute [local irreducible] AWp AOps AQ AYield AEff ACall AWk AAny AAt AThen AIn APost NoPanic
def rteB (l : List Rte) : ABlk := .row 41 9 l.length (l.flatMap rteD)
theorem rteEq (x y : Rte) : eqCells (rteV x) (rteV y) = some (x == y) := by
  obtain ⟨⟨a, b⟩, f, d, m, t, i, h, q⟩ := x
  obtain ⟨⟨a', b'⟩, f', d', m', t', i', h', q'⟩ := y
  simp only [rteV, eqCells, eqV, if_true, mk_toList, Bool.and_true, Option.some.injEq]
  rw [Bool.eq_iff_iff]
  simp only [Bool.and_eq_true, beq_iff_eq, Rte.mk.injEq, Pfx.mk.injEq, and_assoc]
theorem sortR_A (l : List Rte) (hn : l.length ≤ 2147483648) : ACall Tryz.prog 81 [.row 1000, .fn 82 []] [(1000, rteB l)] (fun c h => c = .tup [] ∧ h = [(1000, rteB (srt ordR l))]) := by
  have := sortG (α := Rte) Tryz.sortRoute (f := 81) (el := 41) (k := 9) rfl (by kernel_rfl) (fun W => Tryz.isAgg41 W) (fun W => Tryz.sizeOf41 W) (enc := rteV) (fun _ => rfl)
    (fun x v hv => by simp [rteV] at hv; rcases hv with rfl | rfl | rfl | rfl | rfl | rfl | rfl | rfl | rfl <;> rfl) (eA := rteA) (fun _ => rfl) (fun _ => rfl) (eD := rteD) (fun _ => rfl) good_ordR ordR_eq' (g := 82) routesCmp_A (fun w => (sortNilR _ w).mono fun e w' h => ⟨h.1, h.2.symm⟩) l hn
  unfold rteB
  rw [srt_len]
  exact this
theorem clone_A (l : List Rte) (hl : l.length ≤ 2147483648) : ACall Tryz.prog 80 [rtesA l] [] (fun c h => c = .row 5 ∧ h = [(5, rteB l)]) := by
  refine ACall_of tabOk Tryz.func80 rfl Tryz.ntmps80 (congrArg Array.toList Tryz.results80) (by kernel_rfl) rfl ?_
  have hfl : (l.flatMap rteD).length = l.length * 9 := flat_len rteD_len l
  repeat (first | refine q_Z ?_ | refine R_quiet rfl mixed (by kernel_rfl) ?_ | ((first | apply O_y rfl rfl rfl | apply Q_y rfl rfl rfl); (first | exact q_A | exact q_5 | exact q_B)) | refine q_d ?_ | refine q_a ?_ | refine q_b ?_ | refine q_c ?_ | refine A_ct rfl ?_ | refine A_cf rfl ?_ | refine q_W ?_ | (refine O_nilEq tabOk rfl rfl rfl rfl rfl rfl ?_; intro b hb))
  cases b with
  | true =>
    have : l = [] := List.eq_nil_of_length_eq_zero (hb rfl).2
    subst this
    repeat (first | refine q_Z ?_ | refine R_quiet rfl mixed (by kernel_rfl) ?_ | ((first | apply O_y rfl rfl rfl | apply Q_y rfl rfl rfl); (first | exact q_A | exact q_5 | exact q_B)) | refine q_d ?_ | refine q_a ?_ | refine q_b ?_ | refine q_c ?_ | refine A_ct rfl ?_ | refine A_cf rfl ?_ | refine q_W ?_)
    exact X_retW (Wk_nil 41 9 (t := 2) (id := 5) rfl rfl) rfl (h2 := [(5, rteB [])]) ⟨rfl, trivial⟩ ⟨rfl, rfl⟩
  | false =>
    repeat (first | refine q_Z ?_ | refine R_quiet rfl mixed (by kernel_rfl) ?_ | ((first | apply O_y rfl rfl rfl | apply Q_y rfl rfl rfl); (first | exact q_A | exact q_5 | exact q_B)) | refine q_d ?_ | refine q_a ?_ | refine q_b ?_ | refine q_c ?_ | refine A_ct rfl ?_ | refine A_cf rfl ?_ | refine q_W ?_ | (first | refine O_slice0 tabOk rfl rfl rfl rfl rfl rfl rfl ?_ | (first | refine O_appR tabOk rfl rfl rfl rfl rfl rfl rfl rfl rfl rfl rfl (by first | exact Src.row rfl | exact Src.dat _ _ | exact Src.nil) hfl (by omega) ?_ | refine O_appN tabOk rfl rfl rfl rfl rfl rfl rfl rfl rfl rfl (by first | exact Src.row rfl | exact Src.dat _ _ | exact Src.nil) hfl (by omega) ?_)))
    exact X_retW AWk.refl rfl (h2 := [(5, rteB l)]) ⟨by rw [Nat.zero_add]; rfl, trivial⟩ ⟨rfl, rfl⟩
structure Cpt (l m : List Rte) (k q : Nat) : Prop where
  len : m.length = l.length
  q1 : q ≤ l.length
  kq : k < q
  k0 : 0 < k
  front : m.take k = dedA (l.take q)
  back : ∀ i, q ≤ i + 1 → m[i]? = l[i]?
theorem cpt_next {l m : List Rte} {k q : Nat} (C : Cpt l m k q) (h : q < l.length) (he : l[q - 1]'(by omega) = l[q]) : Cpt l m k (q + 1) := by
  have := C.kq
  have := C.k0
  refine ⟨C.len, by omega, by omega, C.k0, ?_, fun i hi => C.back i (by omega)⟩
  rw [ded_take l q (by omega) h, if_pos he, C.front]
theorem cpt_put {l m : List Rte} {k q : Nat} (C : Cpt l m k q) (h : q < l.length) (he : l[q - 1]'(by omega) ≠ l[q]) : Cpt l (m.set k l[q]) (k + 1) (q + 1) := by
  have h1 := C.kq
  have h2 := C.k0
  have h3 := C.len
  refine ⟨by rw [List.length_set, h3], by omega, by omega, by omega, ?_, fun i hi => ?_⟩
  · rw [ded_take l q (by omega) h, if_neg he, ← C.front, List.take_succ_eq_append_getElem (by rw [List.length_set]; omega), List.getElem_set_self, List.take_set_of_le (Nat.le_refl _)]
  · rw [List.getElem?_set_ne (by omega)]
    exact C.back i (by omega)
theorem win_at (l : List Rte) (k : Nat) (h : k < l.length) : win (l.flatMap rteD) (k * 9) 9 = rteD l[k] := win_flat0 rteD_len l k 9 h (by decide)
theorem win_part (l : List Rte) (a b : Nat) (h : a + b < l.length) : win (l.flatMap rteD) (a * 9 + b * 9) 9 = rteD l[a + b] := by rw [← Nat.add_mul]; exact win_at l (a + b) h
set_option maxHeartbeats 8000000 in
theorem compact_A (l : List Rte) (hn : l.length ≤ 2147483648) : ACall Tryz.prog 83 [.row 1000] [(1000, rteB l)] (fun c h => c = .row 100 ∧ h = [(100, rteB (dedA l))]) := by
  refine ACall_of tabOk Tryz.func83 rfl Tryz.ntmps83 (congrArg Array.toList Tryz.results83) (by kernel_rfl) rfl ?_
  refine A_weaken (Wk_rename (id := 100) (t := 0) rfl rfl) ?_
  by_cases h2 : l.length < 2
  · have hd : dedA l = l := by match l, h2 with | [], _ => rfl | [x], _ => rfl
    rw [hd]
    repeat (first | refine q_Z ?_ | refine R_quiet rfl mixed (by kernel_rfl) ?_ | ((first | apply O_y rfl rfl rfl | apply Q_y rfl rfl rfl); (first | exact q_A | exact q_5 | exact q_B)) | refine q_d ?_ | refine q_a ?_ | refine q_b ?_ | refine q_c ?_ | refine A_ct rfl ?_ | refine A_cf rfl ?_ | refine q_W ?_)
    exact X_retW AWk.refl rfl (h2 := [(100, rteB l)]) ⟨rfl, trivial⟩ ⟨rfl, rfl⟩
  ·
    repeat (first | refine q_Z ?_ | refine R_quiet rfl mixed (by kernel_rfl) ?_ | ((first | apply O_y rfl rfl rfl | apply Q_y rfl rfl rfl); (first | exact q_A | exact q_5 | exact q_B)) | refine q_d ?_ | refine q_a ?_ | refine q_b ?_ | refine q_c ?_ | refine A_ct rfl ?_ | refine A_cf rfl ?_ | refine q_W ?_)
    refine A_loop (fun k : Nat => [(0, .row 100), (3, intA (k : Int))]) (fun _ => [(100, rteB l)]) (fun k => 1 ≤ k ∧ k ≤ l.length ∧ dedA (l.take k) = l.take k) (fun k => l.length - k) 1 ⟨by omega, by omega, ?_⟩ (Wk_sel ⟨rfl, rfl, trivial⟩ ⟨rfl, trivial⟩) ?_
    · match l with
      | [] => rfl
      | x :: r => rfl
    rintro k ⟨hk1, hk2, hd⟩
    dsimp only
    by_cases hlt : k < l.length
    · have hlt1 : k - 1 < l.length := by omega
      have hk' : ((k : Int) - 1) = ((k - 1 : Nat) : Int) := by omega
      have heq := rteEq l[k] l[k - 1]
      have hw0 := win_at l k hlt
      have hw1 := win_at l (k - 1) hlt1
      by_cases he : l[k] = l[k - 1]
      · rw [show (l[k] == l[k - 1]) = true by simpa using he] at heq
        repeat (first | refine q_Z ?_ | refine R_quiet rfl mixed (by kernel_rfl) ?_ | ((first | apply O_y rfl rfl rfl | apply Q_y rfl rfl rfl); (first | exact q_A | exact q_5 | exact q_B | (first | exact R_indexr tabOk rfl rfl rfl rfl rfl rfl hk' hlt1 | exact R_loade tabOk rfl rfl rfl rfl rfl rfl hw0 rfl rfl | exact R_loade tabOk rfl rfl rfl rfl rfl rfl hw1 rfl rfl | exact Y_eq tabOk noStand rfl rfl rfl rfl rfl rfl rfl rfl rfl (by kernel_rfl) heq rfl | exact R_rowFrom tabOk rfl rfl rfl rfl rfl rfl rfl (Nat.le_of_lt hlt)))) | refine q_d ?_ | refine q_a ?_ | refine q_b ?_ | refine q_c ?_ | refine A_ct rfl ?_ | refine A_cf rfl ?_ | refine q_W ?_)
        refine A_loop (fun x : Nat × Nat × List Rte => [(0, .row 100), (3, intA (x.1 : Int)), (4, .srow 100 (k * 9) (l.length - k)), (5, intA (x.2.1 : Int))]) (fun x => [(100, rteB x.2.2)]) (fun x => 1 ≤ x.2.1 ∧ Cpt l x.2.2 x.1 (k + x.2.1)) (fun x => l.length - x.2.1) (k, 1, l) ⟨Nat.le_refl _, rfl, hlt, Nat.lt_succ_self k, hk1, ?_, fun _ _ => rfl⟩ (Wk_sel ⟨rfl, rfl, rfl, rfl, trivial⟩ ⟨rfl, trivial⟩) ?_
        · rw [ded_take l k hk1 hlt, if_pos he.symm, hd]
        rintro ⟨K, j, m⟩ ⟨hj, C⟩
        dsimp only at hj C ⊢
        have c1 := C.len
        have c2 := C.q1
        have c3 := C.kq
        have c4 := C.k0
        by_cases hq : k + j < l.length
        · have hjk : j < l.length - k := by omega
          have hjk1 : j - 1 < l.length - k := by omega
          have hj' : ((j : Int) - 1) = ((j - 1 : Nat) : Int) := by omega
          have e1 : m[k + j]'(by omega) = l[k + j] := by
            have := C.back (k + j) (by omega)
            rw [List.getElem?_eq_getElem (by omega), List.getElem?_eq_getElem hq] at this
            exact Option.some.inj this
          have e2 : m[k + (j - 1)]'(by omega) = l[k + j - 1] := by
            have := C.back (k + (j - 1)) (by omega)
            rw [List.getElem?_eq_getElem (by omega), List.getElem?_eq_getElem (show k + (j - 1) < l.length by omega)] at this
            rw [Option.some.inj this]
            congr 1
            omega
          have hw2 := win_part m k j (by omega)
          have hw3 := win_part m k (j - 1) (by omega)
          rw [e1] at hw2
          rw [e2] at hw3
          have heq2 := rteEq l[k + j] l[k + j - 1]
          by_cases hs : l[k + j - 1] = l[k + j]
          · rw [show (l[k + j] == l[k + j - 1]) = true by simpa using hs.symm] at heq2
            repeat (first | refine q_Z ?_ | refine R_quiet rfl mixed (by kernel_rfl) ?_ | ((first | apply O_y rfl rfl rfl | apply Q_y rfl rfl rfl); (first | exact q_A | exact q_5 | exact q_B | (first | exact R_lens tabOk rfl rfl rfl rfl | exact R_indexs tabOk rfl rfl rfl rfl rfl rfl rfl hjk | exact R_indexs tabOk rfl rfl rfl rfl rfl rfl rfl hjk1 | exact R_indexs tabOk rfl rfl rfl rfl rfl rfl hj' hjk1 | exact R_loade tabOk rfl rfl rfl rfl rfl rfl hw2 rfl rfl | exact R_loade tabOk rfl rfl rfl rfl rfl rfl hw3 rfl rfl | exact Y_eq tabOk noStand rfl rfl rfl rfl rfl rfl rfl rfl rfl (by kernel_rfl) heq2 rfl))) | refine q_d ?_ | refine q_a ?_ | refine q_b ?_ | refine q_c ?_ | refine A_ct rfl ?_ | refine A_cf rfl ?_ | refine q_W ?_)
            exact ⟨(K, j + 1, m), ⟨by dsimp only; omega, by dsimp only; exact cpt_next C hq hs⟩, by dsimp only; omega, Wk_sel ⟨rfl, rfl, rfl, rfl, trivial⟩ ⟨rfl, trivial⟩⟩
          · rw [show (l[k + j] == l[k + j - 1]) = false by simpa using fun h => hs h.symm] at heq2
            have hKm : K < m.length := by omega
            have hfl : (m.flatMap rteD).length = m.length * 9 := flat_len rteD_len m
            repeat (first | refine q_Z ?_ | refine R_quiet rfl mixed (by kernel_rfl) ?_ | ((first | apply O_y rfl rfl rfl | apply Q_y rfl rfl rfl); (first | exact q_A | exact q_5 | exact q_B | (first | exact R_lens tabOk rfl rfl rfl rfl | exact R_indexs tabOk rfl rfl rfl rfl rfl rfl rfl hjk | exact R_indexs tabOk rfl rfl rfl rfl rfl rfl rfl hjk1 | exact R_indexs tabOk rfl rfl rfl rfl rfl rfl hj' hjk1 | exact R_loade tabOk rfl rfl rfl rfl rfl rfl hw2 rfl rfl | exact R_loade tabOk rfl rfl rfl rfl rfl rfl hw3 rfl rfl | exact Y_eq tabOk noStand rfl rfl rfl rfl rfl rfl rfl rfl rfl (by kernel_rfl) heq2 rfl | exact R_indexr tabOk rfl rfl rfl rfl rfl rfl rfl hKm))) | refine q_d ?_ | refine q_a ?_ | refine q_b ?_ | refine q_c ?_ | refine A_ct rfl ?_ | refine A_cf rfl ?_ | refine q_W ?_ | (refine O_storee tabOk rfl rfl rfl rfl rfl rfl rfl rfl rfl rfl (by rw [hfl]; omega) (by omega) ?_))
            exact ⟨(K + 1, j + 1, m.set K l[k + j]), ⟨by dsimp only; omega, by dsimp only; exact cpt_put C hq hs⟩, by dsimp only; omega, Wk_sel ⟨rfl, rfl, rfl, rfl, trivial⟩ ⟨row_eq (by dsimp only; rw [List.length_set]) (flat_set rteD_len m K l[k + j] hKm) rfl, trivial⟩⟩
        · have hK : K ≤ m.length := by omega
          have hq2 : k + j = l.length := by omega
          have hfl : (m.flatMap rteD).length = m.length * 9 := flat_len rteD_len m
          have hjl : ¬ ((j : Int) < ((l.length - k : Nat) : Int)) := by omega
          repeat (first | refine q_Z ?_ | refine R_quiet rfl mixed (by kernel_rfl) ?_ | ((first | apply O_y rfl rfl rfl | apply Q_y rfl rfl rfl); (first | exact q_A | exact q_5 | exact q_B | (first | exact R_lens tabOk rfl rfl rfl rfl | exact R_rowFrom tabOk rfl rfl rfl rfl rfl rfl rfl hK))) | refine q_d ?_ | refine q_a ?_ | refine q_b ?_ | refine q_c ?_ | refine A_ct rfl ?_ | refine A_cf rfl ?_ | refine q_W ?_)
          refine O_clear tabOk rfl rfl rfl rfl rfl rfl rfl rfl (by rw [Nat.sub_mul]; have := Nat.mul_le_mul_right 9 hK; omega) fun zs hzs => ?_
          repeat (first | refine q_Z ?_ | refine R_quiet rfl mixed (by kernel_rfl) ?_ | ((first | apply O_y rfl rfl rfl | apply Q_y rfl rfl rfl); (first | exact q_A | exact q_5 | exact q_B)) | refine q_d ?_ | refine q_a ?_ | refine q_b ?_ | refine q_c ?_ | refine A_ct rfl ?_ | refine A_cf rfl ?_ | refine q_W ?_ | (refine O_rowTo tabOk rfl rfl rfl rfl rfl rfl rfl rfl rfl rfl rfl hK ?_))
          have hfr : (setW (m.flatMap rteD) (K * 9) zs).take (K * 9) = (dedA l).flatMap rteD := by
            unfold setW
            rw [List.take_append_of_le_length (by rw [List.length_append, List.length_take, hfl]; have := Nat.mul_le_mul_right 9 hK; omega), List.take_append_of_le_length (by rw [List.length_take, hfl]; have := Nat.mul_le_mul_right 9 hK; omega), List.take_take, Nat.min_self, flat_take rteD_len, C.front, hq2, List.take_length]
          have hlK : K = (dedA l).length := by
            have := congrArg List.length C.front
            rw [hq2, List.take_length, List.length_take] at this
            omega
          exact X_retW AWk.refl rfl (h2 := [(100, rteB (dedA l))]) ⟨row_eq hlK hfr rfl, trivial⟩ ⟨rfl, rfl⟩
      · rw [show (l[k] == l[k - 1]) = false by simpa using he] at heq
        repeat (first | refine q_Z ?_ | refine R_quiet rfl mixed (by kernel_rfl) ?_ | ((first | apply O_y rfl rfl rfl | apply Q_y rfl rfl rfl); (first | exact q_A | exact q_5 | exact q_B | (first | exact R_indexr tabOk rfl rfl rfl rfl rfl rfl hk' hlt1 | exact R_loade tabOk rfl rfl rfl rfl rfl rfl hw0 rfl rfl | exact R_loade tabOk rfl rfl rfl rfl rfl rfl hw1 rfl rfl | exact Y_eq tabOk noStand rfl rfl rfl rfl rfl rfl rfl rfl rfl (by kernel_rfl) heq rfl))) | refine q_d ?_ | refine q_a ?_ | refine q_b ?_ | refine q_c ?_ | refine A_ct rfl ?_ | refine A_cf rfl ?_ | refine q_W ?_)
        exact ⟨k + 1, ⟨by omega, by omega, by rw [ded_take l k hk1 hlt, if_neg fun h => he h.symm, hd, ← List.take_succ_eq_append_getElem hlt]⟩, by omega, Wk_sel ⟨rfl, rfl, trivial⟩ ⟨rfl, trivial⟩⟩
    · have : k = l.length := by omega
      subst this
      rw [List.take_length] at hd
      rw [hd]
      repeat (first | refine q_Z ?_ | refine R_quiet rfl mixed (by kernel_rfl) ?_ | ((first | apply O_y rfl rfl rfl | apply Q_y rfl rfl rfl); (first | exact q_A | exact q_5 | exact q_B)) | refine q_d ?_ | refine q_a ?_ | refine q_b ?_ | refine q_c ?_ | refine A_ct rfl ?_ | refine A_cf rfl ?_ | refine q_W ?_)
      exact X_retW AWk.refl rfl (h2 := [(100, rteB l)]) ⟨rfl, trivial⟩ ⟨rfl, rfl⟩
end Ab
end Go.Proofs.YtenolkolkpfjgaaGreat

namespace Go.Proofs.YtenolkolkpfjgaaGreat
set_option linter.unusedVariables false
def winB (l : List Rte) (r : Rte) : Bool := l.all fun s => !(decide (s.p = r.p) && decide (rank s r < 0))
def takeR (l : List Rte) : List Rte := sortU ordR (l.filter (winB l))
theorem least {α : Type} {c : α → α → Int} (G : Good c) : ∀ (l : List α), l ≠ [] → ∃ b ∈ l, ∀ s ∈ l, c b s ≤ 0
  | [], h => absurd rfl h
  | [x], _ => ⟨x, List.mem_cons_self .., fun s hs => by rcases List.mem_cons.1 hs with rfl | h; exact Int.le_of_eq (G.refl _); cases h⟩
  | x :: y :: r, _ => by
    obtain ⟨b, hb, hl⟩ := least G (y :: r) (by simp)
    rcases Int.lt_or_le 0 (c x b) with h | h
    · refine ⟨b, List.mem_cons_of_mem _ hb, fun s hs => ?_⟩
      rcases List.mem_cons.1 hs with rfl | hs
      · have := G.anti s b; omega
      · exact hl s hs
    · refine ⟨x, List.mem_cons_self .., fun s hs => ?_⟩
      rcases List.mem_cons.1 hs with rfl | hs
      · exact Int.le_of_eq (G.refl _)
      · exact G.trans _ _ _ h (hl s hs)
structure Kept (l : List Rte) (es : List (Pfx × Rte)) : Prop where
  mem : ∀ e ∈ es, e.2 ∈ l ∧ e.2.p = e.1
  all : ∀ r ∈ l, ∃ e ∈ es, e.1 = r.p ∧ rank e.2 r ≤ 0
end Go.Proofs.YtenolkolkpfjgaaGreat

namespace Go.Proofs.YtenolkolkpfjgaaGreat.Ab
set_option linter.unusedVariables false
open Go.RowKit
def fn0 (f : FuncId) : AVal := .d (.sc (.func (.func f) #[] #[]))
section
variable {P : Program} {nt : Nat} {Q : Post} {e : Env} {h : Heap} {ops : Array Oper} {o : Oper} {rest : List Oper} {T : List Nat} {tab : TTab} {fuel i : Nat} {listed : Array Bool}
end
end Go.Proofs.YtenolkolkpfjgaaGreat.Ab

namespace Go.Proofs.YtenolkolkpfjgaaGreat.Ab
set_option linter.unusedVariables false
set_option maxRecDepth 100000
open Go.RowKit Go.Lib
set_option linter.unusedSimpArgs false
attribute [local irreducible] AWp AOps AQ AYield AEff ACall AWk AAny AAt AThen AIn APost NoPanic
theorem look_one' {a b p i : Nat} (h : look [(a, b)] p = some i) : p = a ∧ i = b := by
  by_cases h1 : a = p
  · subst h1; rw [look_cons_same] at h; cases h; exact ⟨rfl, rfl⟩
  · rw [look_cons_ne _ _ h1] at h; cases h
theorem sort_R (l : List Rte) (hl : l.length ≤ 2147483648) : ACall Tryz.prog 61 [rtesA l] [] (fun c h => c = .row 5 ∧ h = [(5, rteB (sortU ordR l))]) := by
  have h1 := clone_A l hl
  have h2 := sortR_A l hl
  have h3 := compact_A (srt ordR l) (by rw [srt_len]; exact hl)
  refine ACall_of tabOk Tryz.func61 rfl Tryz.ntmps61 (congrArg Array.toList Tryz.results61) (by kernel_rfl) rfl ?_
  repeat (first | refine q_Z ?_ | refine R_quiet rfl mixed (by kernel_rfl) ?_ | ((first | apply O_y rfl rfl rfl | apply Q_y rfl rfl rfl); (first | exact q_A | exact q_5 | exact q_B)) | refine q_d ?_ | refine q_a ?_ | refine q_b ?_ | refine q_c ?_ | refine A_ct rfl ?_ | refine A_cf rfl ?_ | refine q_W ?_)
  refine O_cRow rfl rfl rfl rfl rfl h1 rfl ?_
  repeat (first | refine q_Z ?_ | refine R_quiet rfl mixed (by kernel_rfl) ?_ | ((first | apply O_y rfl rfl rfl | apply Q_y rfl rfl rfl); (first | exact q_A | exact q_5 | exact q_B)) | refine q_d ?_ | refine q_a ?_ | refine q_b ?_ | refine q_c ?_ | refine A_ct rfl ?_ | refine A_cf rfl ?_ | refine q_W ?_)
  refine O_cP [(1000, 5)] (fun p p' i h1 h2 => by rw [(look_one' h1).1, (look_one' h2).1]) (fun p i h1 => by rw [(look_one' h1).1]; exact ⟨Nat.le_refl _, rfl, rfl⟩) h2 (fun c hc => by simp at hc; rcases hc with rfl | rfl <;> rfl) ⟨⟨5, _, rfl, rfl, rfl, trivial⟩, trivial⟩ rfl rfl rfl rfl rfl rfl ?_
  repeat (first | refine q_Z ?_ | refine R_quiet rfl mixed (by kernel_rfl) ?_ | ((first | apply O_y rfl rfl rfl | apply Q_y rfl rfl rfl); (first | exact q_A | exact q_5 | exact q_B)) | refine q_d ?_ | refine q_a ?_ | refine q_b ?_ | refine q_c ?_ | refine A_ct rfl ?_ | refine A_cf rfl ?_ | refine q_W ?_)
  refine O_cM rfl rfl rfl rfl rfl h3 rfl (fun c hc => by simp at hc; subst hc; rfl) rfl rfl ?_
  repeat (first | refine q_Z ?_ | refine R_quiet rfl mixed (by kernel_rfl) ?_ | ((first | apply O_y rfl rfl rfl | apply Q_y rfl rfl rfl); (first | exact q_A | exact q_5 | exact q_B)) | refine q_d ?_ | refine q_a ?_ | refine q_b ?_ | refine q_c ?_ | refine A_ct rfl ?_ | refine A_cf rfl ?_ | refine q_W ?_)
  exact X_retW AWk.refl rfl (h2 := [(5, rteB (sortU ordR l))]) ⟨rfl, trivial⟩ ⟨rfl, rfl⟩
def rteB1 (r : Rte) : ABlk := .var ((rteD r).map AVal.d)
end Go.Proofs.YtenolkolkpfjgaaGreat.Ab

namespace Go.Proofs.YtenolkolkpfjgaaGreat.Ab
set_option linter.unusedVariables false
set_option maxRecDepth 100000
open Go.RowKit Go.Lib
set_option linter.unusedSimpArgs false
attribute [local irreducible] AWp AOps AQ AYield AEff ACall AWk AAny AAt AThen AIn APost NoPanic
def rte0 : Rte := ⟨⟨0, 0⟩, 0, 0, 0, 0, [], 0, false⟩
def bestB (l : List (Pfx × Rte)) : ABlk := .map (ents pfxA rteA l)
theorem take_snoc {α : Type} (l : List α) (k : Nat) (h : k < l.length) : l.take (k + 1) = l.take k ++ [l[k]] := List.take_succ_eq_append_getElem h
theorem filter_takeR (p : Rte → Bool) (l : List Rte) (k : Nat) (h : k < l.length) : (l.take (k + 1)).filter p = (l.take k).filter p ++ (if p l[k] then [l[k]] else []) := by
  rw [take_snoc l k h, List.filter_append]
  congr 1
  cases hp : p l[k] <;> simp [hp]
def okR (r : Rte) : Prop := (0 ≤ r.f ∧ r.f < 256) ∧ r.p.ok
end Go.Proofs.YtenolkolkpfjgaaGreat.Ab

namespace Go.Proofs.YtenolkolkpfjgaaGreat.Ab
set_option linter.unusedVariables false
open Go.RowKit
section
variable {P : Program} {nt : Nat} {Q : Post} {e : Env} {h : Heap} {ops : Array Oper} {o : Oper} {rest : List Oper} {T : List Nat} {tab : TTab} {fuel i : Nat} {listed : Array Bool}
theorem E_appendD {t el : TypeId} {te te' : TE} {d : Option Tmp} {x y : Operand} {n m : Nat} {cy : AVal} {cs ds : List Dat} (TO : TabOk P tab) (ho : o.op = .call { callee := .builtin .append, args := #[x, y], argTypes := #[t, t] }) (hdst : o.dst = d)
    (ht : tlook tab t = some te) (hs : te.sh = .sl el) (hel : tlook tab el = some te') (hk : Nat.blt 0 te'.size = true) (hk2 : Nat.beq te'.zero.length te'.size = true) (hb : Nat.ble te'.bytes 65536 = true)
    (hx : aev e x = some (.full cs n)) (hcs : cs.length = n * te'.size) (hy : aev e y = some cy) (S : Src h cy m ds) (hm : 0 < m) (hl : ds.length = m * te'.size) (hn : n + m ≤ 2147483648) (hd : dstOk nt d = true) :
    AEff P nt T e h o (fun e' h' => e' = aput d (.d (.sl (cs ++ ds) (n + m))) e ∧ h' = h) := fun Pm F w0 pin ι a w R K Qx hK => by
  have hk' : 0 < te'.size := by simp [Nat.blt] at hk; omega
  obtain ⟨news, hnl, hnr, hsrc⟩ := S.cells R.heap (aev_rel R.env hy)
  have hone : ∀ u ∈ news, u.oneCell' = true := fun u hu => by
    obtain ⟨i, hi⟩ := List.mem_iff_getElem?.1 hu
    have hlt : i < ds.length := by rw [← hnl]; exact (List.getElem?_eq_some_iff.1 hi).1
    exact (hnr i ds[i] u (List.getElem?_eq_getElem hlt) hi).one
  have hsrc' : ∃ b o' c', a.eval y = .slice (some ⟨b, o', none⟩) m c' ∧ ∀ (j : Nat) (x : Value), news[j]? = some x → w.cell? ⟨b, o' + j, none⟩ = some x := by
    rcases hsrc with ⟨_, h2, _⟩ | ⟨_, h2, _⟩ | h1
    · omega
    · omega
    · exact h1
  have hxv := aev_rel R.env hx
  obtain ⟨ux, hux⟩ : ∃ ux, a.eval x = ux := ⟨_, rfl⟩
  rw [hux] at hxv
  cases hxv with
  | full _ _ b hD =>
  obtain ⟨olds, hol, hor, hold⟩ : ∃ olds : List Value, olds.length = cs.length ∧ (∀ (i : Nat) (c : Dat) (u : Value), cs[i]? = some c → olds[i]? = some u → DRel w (FreeB F ι) c u) ∧ ((b = none ∧ n = 0) ∨ ∃ ba, b = some ba ∧ ∀ (j : Nat) (x : Value), olds[j]? = some x → w.cell? (ba.add j) = some x) := by
    cases hD with
    | nil => exact ⟨[], rfl, by simp, .inl ⟨rfl, rfl⟩⟩
    | emp ea => exact ⟨[], rfl, by simp, .inr ⟨ea, rfl, fun j x hj => by simp at hj⟩⟩
    | sl _ _ b o cap vs hn hl hf hc hr => exact ⟨vs, hl, hr, .inr ⟨_, rfl, fun j x hj => by rw [add_lit0]; exact hc j x hj⟩⟩
  obtain ⟨v', w', hr, hown', hg⟩ := run_appF (P := P) (ty := o.type) w (TO t te ht) hs (TO el te' hel) hk' (Nat.eq_of_beq_eq_true hk2) b n olds (by rw [hol, hcs]) hold (a.eval y) m news hm (by rw [hnl, hl]) hsrc' hone hn (Nat.le_of_ble_eq_true hb)
  have G : Grew w w' := ⟨hg.os, hg.tape, hg.output, hg.size, fun r hr1 => hg.block r hr1 (by simp)⟩
  have hrun : (execOp a.eval o).run P w = .ok (.value v') w' := by
    simp [execOp, ho, resolve, invoke, builtin, hux, hr]
  have hDR : DRel w' (FreeB F ι) (.sl (cs ++ ds) (n + m)) v' := by
    rcases hown'.2 with ⟨_, h0⟩ | ⟨g, cap, cur, rfl, hge, hg2, hnc, _⟩
    · omega
    · refine .sl _ _ g 0 cap (olds ++ news) hnc (by simp [hol, hnl]) (fun _ => ⟨fun hF => ?_, fun id v hv hb2 => ?_⟩) (fun i u hu => ?_) fun i c u h1 h2 => ?_
      · have := R.heap.forb g hF
        have := R.heap.size
        omega
      · have := R.heap.lt hv hb2
        omega
      · have := hown'.cells (g := g) rfl i u hu
        rwa [Addr.add_mid] at this
      · rw [List.getElem?_append] at h1 h2
        rw [hol] at h2
        split at h1
        · rename_i hlt; rw [if_pos hlt] at h2; exact (hor _ _ _ h1 h2).ext (fun r hr _ => G.mem r hr) fun _ _ hf => hf
        · rename_i hlt; rw [if_neg hlt] at h2; exact (hnr _ _ _ h1 h2).ext (fun r hr _ => G.mem r hr) fun _ _ hf => hf
  unfold Oper.wp
  rw [hrun, Oper.upon_value, hdst]
  exact hK ι _ _ _ w' ⟨rfl, rfl⟩ ((R.grew G).put hd (.d _ _ hDR)) ⟨G.ct T, fun id _ v r h1 h2 _ => ⟨v, h1, h2⟩⟩ (put_defers _ _ _)
theorem T_appD {t el k n m d : Nat} {x y : Operand} {cy : AVal} {cs ds : List Dat} (TO : TabOk P tab) (hi : ops[i]? = some o) (hw : awant ops e o = some true) (hdst : o.dst = some d) (hd : Nat.blt d nt = true) (ho : o.op = .call { callee := .builtin .append, args := #[x, y], argTypes := #[t, t] })
    (hel : telem tab t = some el) (hsz : tsize tab el = some k) (hok : (match tlook tab el with | some te => Nat.blt 0 te.size && Nat.beq te.zero.length te.size && Nat.ble te.bytes 65536 | none => false) = true)
    (hx : aev e x = some (.full cs n)) (hy : aev e y = some cy) (S : Src h cy m ds) (hcs : cs.length = n * k) (hm : 0 < m) (hl : ds.length = m * k) (hn : n + m ≤ 2147483648)
    (HK : AAny P nt ops Q T fuel (listed.setIfInBounds i true) ((d, .d (.sl (cs ++ ds) (n + m))) :: e) h) : AAt P nt ops Q T fuel listed i e h := by
  obtain ⟨te, h1, h2⟩ := telem_spec hel
  obtain ⟨te', h3, rfl⟩ := tsize_spec hsz
  rw [h3] at hok
  simp only [Bool.and_eq_true] at hok
  exact T_eff hi hw (E_appendD TO ho hdst h1 h2 h3 hok.1.1 hok.1.2 hok.2 hx hcs hy S hm hl hn hd) fun e' h' ⟨h4, h5⟩ => by subst h4 h5; exact HK
end
end Go.Proofs.YtenolkolkpfjgaaGreat.Ab

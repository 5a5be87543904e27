/-
  Texts of a proof, one behind the other (part 18).
-/
import Derived.Test.YtenolkolkpfjgaaGreatFt1
import Derived.Test.YtenolkolkpfjgaaGreatFt2
import Derived.Test.YtenolkolkpfjgaaGreatFt5
import Derived.Test.YtenolkolkpfjgaaGreatFt8
import Derived.Test.YtenolkolkpfjgaaGreatFt14
import Derived.Test.YtenolkolkpfjgaaGreatFt15
import Derived.Test.YtenolkolkpfjgaaGreatFt16
set_option linter.unusedVariables false
set_option linter.unusedSimpArgs false
namespace Go.Proofs.YtenolkolkpfjgaaGreat
set_option linter.unusedVariables false
open Go.RowKit Go.Lib
section
open Go.RowKit Go.Sort Go.Lib
set_option maxRecDepth 100000
theorem insNilH (c : Value) (w : World) : Calls Tryz.prog 89 #[.slice none 0 0, .int .i64 0, .int .i64 0, c] w (RetS w (.tuple #[])) := by
  go_enter Tryz.func89, Tryz.ntmps89
  go_wp2_with fail
  refine wp_loop_rounds 1 ?_
  rw [rounds_succ]; go_wp2_with fail
  go_end0
  exact ⟨rfl, rfl⟩
theorem pdqNilH (c : Value) (w : World) (n : Int) : Calls Tryz.prog 77 #[.slice none 0 0, .int .i64 0, .int .i64 0, .int .i64 n, c] w (RetS w (.tuple #[])) := by
  go_enter Tryz.func77, Tryz.ntmps77
  go_wp2_with fail
  refine wp_loop_rounds 1 ?_
  rw [rounds_succ]; go_wp2_with fail
  refine (insNilH c _).mono ?_
  rintro e w' ⟨rfl, rfl⟩
  go_wp2_with fail
  go_end0
  exact ⟨rfl, rfl⟩
theorem sortNilH (c : Value) (w : World) : Calls Tryz.prog 51 #[.slice none 0 0, c] w (RetS w (.tuple #[])) := by
  have hl := fun W => Any.bits_Len (SlLaysF0.n15.bits (P := _) (ρ := _) { Tryz.sortHop with }) (0 : Int) W (by omega) (by omega)
  go_enter Tryz.func51, Tryz.ntmps51
  go_wp2_with fail
  refine (hl _).mono ?_
  rintro e w' ⟨rfl, rfl⟩
  go_wp2_with fail
  refine (pdqNilH c _ _).mono ?_
  rintro e w' ⟨rfl, rfl⟩
  go_wp2_with fail
  go_end0
  exact ⟨rfl, rfl⟩
end
namespace Ab
set_option maxRecDepth 100000
open Go.RowKit Go.Lib
set_option linter.unusedSimpArgs false
attribute [local irreducible] AWp AOps AQ AYield AEff ACall AWk AAny AAt AThen AIn APost NoPanic
theorem sortH_A (l : List Hp) (hn : l.length ≤ 2147483648) : ACall Tryz.prog 51 [.row 1000, .fn 52 []] [(1000, hopB l)] (fun c h => c = .tup [] ∧ h = [(1000, hopB (srt ordH l))]) := by
  have := sortG (α := Hp) Tryz.sortHop (f := 51) (el := 66) (k := 2) rfl (by kernel_rfl) (fun W => Tryz.isAgg66 W) (fun W => Tryz.sizeOf66 W) (enc := hopV) (fun _ => rfl)
    (fun x v hv => by simp [hopV] at hv; rcases hv with rfl | rfl <;> rfl) (eA := hopA) (fun _ => rfl) (fun _ => rfl) (eD := hopD) (fun _ => rfl) good_ordH ordH_eq (g := 52) hopCmp_A (fun w => (sortNilH _ w).mono fun e w' h => ⟨h.1, h.2.symm⟩) l hn
  unfold hopB
  rw [srt_len]
  exact this
structure CptH (l m : List Hp) (k q : Nat) : Prop where
  len : m.length = l.length
  q1 : q ≤ l.length
  kq : k < q
  k0 : 0 < k
  front : m.take k = dedA (l.take q)
  back : ∀ i, q ≤ i + 1 → m[i]? = l[i]?
theorem cptH_next {l m : List Hp} {k q : Nat} (C : CptH l m k q) (h : q < l.length) (he : l[q - 1]'(by omega) = l[q]) : CptH l m k (q + 1) := by
  have := C.kq
  have := C.k0
  refine ⟨C.len, by omega, by omega, C.k0, ?_, fun i hi => C.back i (by omega)⟩
  rw [ded_take l q (by omega) h, if_pos he, C.front]
theorem cptH_put {l m : List Hp} {k q : Nat} (C : CptH l m k q) (h : q < l.length) (he : l[q - 1]'(by omega) ≠ l[q]) : CptH l (m.set k l[q]) (k + 1) (q + 1) := by
  have h1 := C.kq
  have h2 := C.k0
  have h3 := C.len
  refine ⟨by rw [List.length_set, h3], by omega, by omega, by omega, ?_, fun i hi => ?_⟩
  · rw [ded_take l q (by omega) h, if_neg he, ← C.front, List.take_succ_eq_append_getElem (by rw [List.length_set]; omega), List.getElem_set_self, List.take_set_of_le (Nat.le_refl _)]
  · rw [List.getElem?_set_ne (by omega)]
    exact C.back i (by omega)
theorem winH_at (l : List Hp) (k : Nat) (h : k < l.length) : win (l.flatMap hopD) (k * 2) 2 = hopD l[k] := win_flat0 hopD_len l k 2 h (by decide)
theorem winH_part (l : List Hp) (a b : Nat) (h : a + b < l.length) : win (l.flatMap hopD) (a * 2 + b * 2) 2 = hopD l[a + b] := by rw [← Nat.add_mul]; exact winH_at l (a + b) h
set_option maxHeartbeats 8000000 in
theorem compactH_A (l : List Hp) (hn : l.length ≤ 2147483648) : ACall Tryz.prog 54 [.row 1000] [(1000, hopB l)] (fun c h => c = .row 100 ∧ h = [(100, hopB (dedA l))]) := by
  refine ACall_of tabOk Tryz.func54 rfl Tryz.ntmps54 (congrArg Array.toList Tryz.results54) (by kernel_rfl) rfl ?_
  refine A_weaken (Wk_rename (id := 100) (t := 0) rfl rfl) ?_
  by_cases h2 : l.length < 2
  · have hd : dedA l = l := by match l, h2 with | [], _ => rfl | [x], _ => rfl
    rw [hd]
    repeat (first | refine q_Z ?_ | refine R_quiet rfl mixed (by kernel_rfl) ?_ | ((first | apply O_y rfl rfl rfl | apply Q_y rfl rfl rfl); (first | exact q_A | exact q_5 | exact q_B)) | refine q_d ?_ | refine q_a ?_ | refine q_b ?_ | refine q_c ?_ | refine A_ct rfl ?_ | refine A_cf rfl ?_ | refine q_W ?_)
    exact X_retW AWk.refl rfl (h2 := [(100, hopB l)]) ⟨rfl, trivial⟩ ⟨rfl, rfl⟩
  ·
    repeat (first | refine q_Z ?_ | refine R_quiet rfl mixed (by kernel_rfl) ?_ | ((first | apply O_y rfl rfl rfl | apply Q_y rfl rfl rfl); (first | exact q_A | exact q_5 | exact q_B)) | refine q_d ?_ | refine q_a ?_ | refine q_b ?_ | refine q_c ?_ | refine A_ct rfl ?_ | refine A_cf rfl ?_ | refine q_W ?_)
    refine A_loop (fun k : Nat => [(0, .row 100), (3, intA (k : Int))]) (fun _ => [(100, hopB l)]) (fun k => 1 ≤ k ∧ k ≤ l.length ∧ dedA (l.take k) = l.take k) (fun k => l.length - k) 1 ⟨by omega, by omega, ?_⟩ (Wk_sel ⟨rfl, rfl, trivial⟩ ⟨rfl, trivial⟩) ?_
    · match l with
      | [] => rfl
      | x :: r => rfl
    rintro k ⟨hk1, hk2, hd⟩
    dsimp only
    by_cases hlt : k < l.length
    · have hlt1 : k - 1 < l.length := by omega
      have hk' : ((k : Int) - 1) = ((k - 1 : Nat) : Int) := by omega
      have heq := hopEq l[k] l[k - 1]
      have hw0 := winH_at l k hlt
      have hw1 := winH_at l (k - 1) hlt1
      by_cases he : l[k] = l[k - 1]
      · rw [show (l[k] == l[k - 1]) = true by simpa using he] at heq
        repeat (first | refine q_Z ?_ | refine R_quiet rfl mixed (by kernel_rfl) ?_ | ((first | apply O_y rfl rfl rfl | apply Q_y rfl rfl rfl); (first | exact q_A | exact q_5 | exact q_B | (first | exact R_indexr tabOk rfl rfl rfl rfl rfl rfl hk' hlt1 | exact R_loade tabOk rfl rfl rfl rfl rfl rfl hw0 rfl rfl | exact R_loade tabOk rfl rfl rfl rfl rfl rfl hw1 rfl rfl | exact Y_eq tabOk noStand rfl rfl rfl rfl rfl rfl rfl rfl rfl (by kernel_rfl) heq rfl | exact R_rowFrom tabOk rfl rfl rfl rfl rfl rfl rfl (Nat.le_of_lt hlt)))) | refine q_d ?_ | refine q_a ?_ | refine q_b ?_ | refine q_c ?_ | refine A_ct rfl ?_ | refine A_cf rfl ?_ | refine q_W ?_)
        refine A_loop (fun x : Nat × Nat × List Hp => [(0, .row 100), (3, intA (x.1 : Int)), (4, .srow 100 (k * 2) (l.length - k)), (5, intA (x.2.1 : Int))]) (fun x => [(100, hopB x.2.2)]) (fun x => 1 ≤ x.2.1 ∧ CptH l x.2.2 x.1 (k + x.2.1)) (fun x => l.length - x.2.1) (k, 1, l) ⟨Nat.le_refl _, rfl, hlt, Nat.lt_succ_self k, hk1, ?_, fun _ _ => rfl⟩ (Wk_sel ⟨rfl, rfl, rfl, rfl, trivial⟩ ⟨rfl, trivial⟩) ?_
        · rw [ded_take l k hk1 hlt, if_pos he.symm, hd]
        rintro ⟨K, j, m⟩ ⟨hj, C⟩
        dsimp only at hj C ⊢
        have c1 := C.len
        have c2 := C.q1
        have c3 := C.kq
        have c4 := C.k0
        by_cases hq : k + j < l.length
        · have hjk : j < l.length - k := by omega
          have hjk1 : j - 1 < l.length - k := by omega
          have hj' : ((j : Int) - 1) = ((j - 1 : Nat) : Int) := by omega
          have e1 : m[k + j]'(by omega) = l[k + j] := by
            have := C.back (k + j) (by omega)
            rw [List.getElem?_eq_getElem (by omega), List.getElem?_eq_getElem hq] at this
            exact Option.some.inj this
          have e2 : m[k + (j - 1)]'(by omega) = l[k + j - 1] := by
            have := C.back (k + (j - 1)) (by omega)
            rw [List.getElem?_eq_getElem (by omega), List.getElem?_eq_getElem (show k + (j - 1) < l.length by omega)] at this
            rw [Option.some.inj this]
            congr 1
            omega
          have hw2 := winH_part m k j (by omega)
          have hw3 := winH_part m k (j - 1) (by omega)
          rw [e1] at hw2
          rw [e2] at hw3
          have heq2 := hopEq l[k + j] l[k + j - 1]
          by_cases hs : l[k + j - 1] = l[k + j]
          · rw [show (l[k + j] == l[k + j - 1]) = true by simpa using hs.symm] at heq2
            repeat (first | refine q_Z ?_ | refine R_quiet rfl mixed (by kernel_rfl) ?_ | ((first | apply O_y rfl rfl rfl | apply Q_y rfl rfl rfl); (first | exact q_A | exact q_5 | exact q_B | (first | exact R_lens tabOk rfl rfl rfl rfl | exact R_indexs tabOk rfl rfl rfl rfl rfl rfl rfl hjk | exact R_indexs tabOk rfl rfl rfl rfl rfl rfl rfl hjk1 | exact R_indexs tabOk rfl rfl rfl rfl rfl rfl hj' hjk1 | exact R_loade tabOk rfl rfl rfl rfl rfl rfl hw2 rfl rfl | exact R_loade tabOk rfl rfl rfl rfl rfl rfl hw3 rfl rfl | exact Y_eq tabOk noStand rfl rfl rfl rfl rfl rfl rfl rfl rfl (by kernel_rfl) heq2 rfl))) | refine q_d ?_ | refine q_a ?_ | refine q_b ?_ | refine q_c ?_ | refine A_ct rfl ?_ | refine A_cf rfl ?_ | refine q_W ?_)
            exact ⟨(K, j + 1, m), ⟨by dsimp only; omega, by dsimp only; exact cptH_next C hq hs⟩, by dsimp only; omega, Wk_sel ⟨rfl, rfl, rfl, rfl, trivial⟩ ⟨rfl, trivial⟩⟩
          · rw [show (l[k + j] == l[k + j - 1]) = false by simpa using fun h => hs h.symm] at heq2
            have hKm : K < m.length := by omega
            have hfl : (m.flatMap hopD).length = m.length * 2 := flat_len hopD_len m
            repeat (first | refine q_Z ?_ | refine R_quiet rfl mixed (by kernel_rfl) ?_ | ((first | apply O_y rfl rfl rfl | apply Q_y rfl rfl rfl); (first | exact q_A | exact q_5 | exact q_B | (first | exact R_lens tabOk rfl rfl rfl rfl | exact R_indexs tabOk rfl rfl rfl rfl rfl rfl rfl hjk | exact R_indexs tabOk rfl rfl rfl rfl rfl rfl rfl hjk1 | exact R_indexs tabOk rfl rfl rfl rfl rfl rfl hj' hjk1 | exact R_loade tabOk rfl rfl rfl rfl rfl rfl hw2 rfl rfl | exact R_loade tabOk rfl rfl rfl rfl rfl rfl hw3 rfl rfl | exact Y_eq tabOk noStand rfl rfl rfl rfl rfl rfl rfl rfl rfl (by kernel_rfl) heq2 rfl | exact R_indexr tabOk rfl rfl rfl rfl rfl rfl rfl hKm))) | refine q_d ?_ | refine q_a ?_ | refine q_b ?_ | refine q_c ?_ | refine A_ct rfl ?_ | refine A_cf rfl ?_ | refine q_W ?_ | (refine O_storee tabOk rfl rfl rfl rfl rfl rfl rfl rfl rfl rfl (by rw [hfl]; omega) (by omega) ?_))
            exact ⟨(K + 1, j + 1, m.set K l[k + j]), ⟨by dsimp only; omega, by dsimp only; exact cptH_put C hq hs⟩, by dsimp only; omega, Wk_sel ⟨rfl, rfl, rfl, rfl, trivial⟩ ⟨row_eq (by dsimp only; rw [List.length_set]) (flat_set hopD_len m K l[k + j] hKm) rfl, trivial⟩⟩
        · have hK : K ≤ m.length := by omega
          have hq2 : k + j = l.length := by omega
          have hfl : (m.flatMap hopD).length = m.length * 2 := flat_len hopD_len m
          have hjl : ¬ ((j : Int) < ((l.length - k : Nat) : Int)) := by omega
          repeat (first | refine q_Z ?_ | refine R_quiet rfl mixed (by kernel_rfl) ?_ | ((first | apply O_y rfl rfl rfl | apply Q_y rfl rfl rfl); (first | exact q_A | exact q_5 | exact q_B | (first | exact R_lens tabOk rfl rfl rfl rfl | exact R_rowFrom tabOk rfl rfl rfl rfl rfl rfl rfl hK))) | refine q_d ?_ | refine q_a ?_ | refine q_b ?_ | refine q_c ?_ | refine A_ct rfl ?_ | refine A_cf rfl ?_ | refine q_W ?_)
          refine O_clear tabOk rfl rfl rfl rfl rfl rfl rfl rfl (by rw [Nat.sub_mul]; have := Nat.mul_le_mul_right 2 hK; omega) fun zs hzs => ?_
          repeat (first | refine q_Z ?_ | refine R_quiet rfl mixed (by kernel_rfl) ?_ | ((first | apply O_y rfl rfl rfl | apply Q_y rfl rfl rfl); (first | exact q_A | exact q_5 | exact q_B)) | refine q_d ?_ | refine q_a ?_ | refine q_b ?_ | refine q_c ?_ | refine A_ct rfl ?_ | refine A_cf rfl ?_ | refine q_W ?_ | (refine O_rowTo tabOk rfl rfl rfl rfl rfl rfl rfl rfl rfl rfl rfl hK ?_))
          have hfr : (setW (m.flatMap hopD) (K * 2) zs).take (K * 2) = (dedA l).flatMap hopD := by
            unfold setW
            rw [List.take_append_of_le_length (by rw [List.length_append, List.length_take, hfl]; have := Nat.mul_le_mul_right 2 hK; omega), List.take_append_of_le_length (by rw [List.length_take, hfl]; have := Nat.mul_le_mul_right 2 hK; omega), List.take_take, Nat.min_self, flat_take hopD_len, C.front, hq2, List.take_length]
          have hlK : K = (dedA l).length := by
            have := congrArg List.length C.front
            rw [hq2, List.take_length, List.length_take] at this
            omega
          exact X_retW AWk.refl rfl (h2 := [(100, hopB (dedA l))]) ⟨row_eq hlK hfr rfl, trivial⟩ ⟨rfl, rfl⟩
      · rw [show (l[k] == l[k - 1]) = false by simpa using he] at heq
        repeat (first | refine q_Z ?_ | refine R_quiet rfl mixed (by kernel_rfl) ?_ | ((first | apply O_y rfl rfl rfl | apply Q_y rfl rfl rfl); (first | exact q_A | exact q_5 | exact q_B | (first | exact R_indexr tabOk rfl rfl rfl rfl rfl rfl hk' hlt1 | exact R_loade tabOk rfl rfl rfl rfl rfl rfl hw0 rfl rfl | exact R_loade tabOk rfl rfl rfl rfl rfl rfl hw1 rfl rfl | exact Y_eq tabOk noStand rfl rfl rfl rfl rfl rfl rfl rfl rfl (by kernel_rfl) heq rfl))) | refine q_d ?_ | refine q_a ?_ | refine q_b ?_ | refine q_c ?_ | refine A_ct rfl ?_ | refine A_cf rfl ?_ | refine q_W ?_)
        exact ⟨k + 1, ⟨by omega, by omega, by rw [ded_take l k hk1 hlt, if_neg fun h => he h.symm, hd, ← List.take_succ_eq_append_getElem hlt]⟩, by omega, Wk_sel ⟨rfl, rfl, trivial⟩ ⟨rfl, trivial⟩⟩
    · have : k = l.length := by omega
      subst this
      rw [List.take_length] at hd
      rw [hd]
      repeat (first | refine q_Z ?_ | refine R_quiet rfl mixed (by kernel_rfl) ?_ | ((first | apply O_y rfl rfl rfl | apply Q_y rfl rfl rfl); (first | exact q_A | exact q_5 | exact q_B)) | refine q_d ?_ | refine q_a ?_ | refine q_b ?_ | refine q_c ?_ | refine A_ct rfl ?_ | refine A_cf rfl ?_ | refine q_W ?_)
      exact X_retW AWk.refl rfl (h2 := [(100, hopB l)]) ⟨rfl, trivial⟩ ⟨rfl, rfl⟩
end Ab
end Go.Proofs.YtenolkolkpfjgaaGreat

namespace Go.Proofs.YtenolkolkpfjgaaGreat.Ab
set_option linter.unusedVariables false
set_option linter.unusedSimpArgs false
set_option maxRecDepth 100000
open Go.RowKit

def rteW (r : Rte) : Value := .agg #[.int .u32 r.p.a, .int .i64 r.p.b, .int .u8 r.f, .int .i64 r.d, .int .i64 r.m, .int .i64 r.t, .string ⟨⟨r.i⟩⟩, .int .u32 r.h, .bool r.x]
theorem rteW_val (r : Rte) : valA (rteA r) = some (rteW r) := rfl
theorem rteW_rel (r : Rte) (w : World) (F : Nat → Prop) (ι : Nat → Option Value) : VRel w F ι (rteA r) (rteW r) := val_mk _ _ _ _ _ rfl rfl
theorem kchk_int (b : Bool) (n : Nat) (t : TypeId) (q : IntKind) (x : Int) (w : World) (ht : Tryz.prog.underlying t = some (.int q)) : (Instr.checkKey b (n + 1) t (.int q x)).run Tryz.prog w = .ok () w := by
  unfold Instr.checkKey
  simp [run_underlying ht]
theorem kchk_str (b : Bool) (n : Nat) (t : TypeId) (x : ByteArray) (w : World) (ht : Tryz.prog.underlying t = some .string) : (Instr.checkKey b (n + 1) t (.string x)).run Tryz.prog w = .ok () w := by
  unfold Instr.checkKey
  simp [run_underlying ht]
theorem kchk_bool (b : Bool) (n : Nat) (t : TypeId) (x : Bool) (w : World) (ht : Tryz.prog.underlying t = some .bool) : (Instr.checkKey b (n + 1) t (.bool x)).run Tryz.prog w = .ok () w := by
  unfold Instr.checkKey
  simp [run_underlying ht]
theorem part_one {t : TypeId} {te : TE} (h : tlook tab t = some te) (ha : te.agg = false) (C : Array Value) (o : Nat) (v : Value) (hv : C[o]? = some v) (w : World) : (part t C o).run Tryz.prog w = .ok v w := by
  unfold part
  simp [(tabOk _ _ h).run_agg, ha, hv]
theorem kchk_pfx (b : Bool) (k : Pfx) (w : World) (n : Nat) : (Instr.checkKey b (n + 2) 39 (.agg #[.int .u32 k.a, .int .i64 k.b])).run Tryz.prog w = .ok () w := by
  unfold Instr.checkKey
  simp [run_underlying Tryz.underlying39, part_one (t := 37) rfl rfl #[.int .u32 k.a, .int .i64 k.b] 0 _ rfl, part_one (t := 3) rfl rfl #[.int .u32 k.a, .int .i64 k.b] 1 _ rfl, kchk_int b n _ _ _ _ Tryz.underlying37, kchk_int b n _ _ _ _ Tryz.underlying3]
theorem part_pfx (r : Rte) (C : Array Value) (hC : rteW r = .agg C) (w : World) : (part 39 C 0).run Tryz.prog w = .ok (.agg #[.int .u32 r.p.a, .int .i64 r.p.b]) w := by
  cases hC
  have h : tlook tab 39 = some _ := rfl
  unfold part
  simp [(tabOk _ _ h).run_agg, (tabOk _ _ h).size]
theorem kchk_rte (b : Bool) (r : Rte) (w : World) (n : Nat) : (Instr.checkKey b (n + 3) 41 (rteW r)).run Tryz.prog w = .ok () w := by
  obtain ⟨C, hC⟩ : ∃ C, rteW r = .agg C := ⟨_, rfl⟩
  have h0 := part_pfx r C hC
  have h1 : ∀ w, (part 5 C 2).run Tryz.prog w = .ok (.int .u8 r.f) w := fun w => by cases hC; exact part_one (t := 5) rfl rfl _ 2 _ rfl w
  have h2 : ∀ w, (part 3 C 3).run Tryz.prog w = .ok (.int .i64 r.d) w := fun w => by cases hC; exact part_one (t := 3) rfl rfl _ 3 _ rfl w
  have h3 : ∀ w, (part 3 C 4).run Tryz.prog w = .ok (.int .i64 r.m) w := fun w => by cases hC; exact part_one (t := 3) rfl rfl _ 4 _ rfl w
  have h4 : ∀ w, (part 3 C 5).run Tryz.prog w = .ok (.int .i64 r.t) w := fun w => by cases hC; exact part_one (t := 3) rfl rfl _ 5 _ rfl w
  have h5 : ∀ w, (part 9 C 6).run Tryz.prog w = .ok (.string ⟨⟨r.i⟩⟩) w := fun w => by cases hC; exact part_one (t := 9) rfl rfl _ 6 _ rfl w
  have h6 : ∀ w, (part 37 C 7).run Tryz.prog w = .ok (.int .u32 r.h) w := fun w => by cases hC; exact part_one (t := 37) rfl rfl _ 7 _ rfl w
  have h7 : ∀ w, (part 4 C 8).run Tryz.prog w = .ok (.bool r.x) w := fun w => by cases hC; exact part_one (t := 4) rfl rfl _ 8 _ rfl w
  rw [hC]
  unfold Instr.checkKey
  simp [run_underlying Tryz.underlying41, h0, h1, h2, h3, h4, h5, h6, h7, kchk_pfx b r.p _ n, kchk_int b (n + 1) _ _ _ _ Tryz.underlying37, kchk_int b (n + 1) _ _ _ _ Tryz.underlying3, kchk_int b (n + 1) _ _ _ _ Tryz.underlying5, kchk_str b (n + 1) _ _ _ Tryz.underlying9, kchk_bool b (n + 1) _ _ _ Tryz.underlying4]
theorem rteKey : KeyLaw Tryz.prog 41 rteW (fun _ => True) := by
  refine KeyLaw.of_agg Tryz.underlying41 (fun k => ⟨_, rfl⟩) ?_ ?_ ?_
  · intro b k w _
    exact kchk_rte b k w 9997
  · intro a b w _ _
    have h := run_eqLeafs tabOk noStand 8 41 _ (rteV a) (rteV b) _ 9999 _ w rfl rfl rfl rfl (rteEq a b) (by omega)
    have e : (a == b) = decide (a = b) := by rw [Bool.eq_iff_iff]; simp
    rw [e] at h
    exact h
  · intro a _
    simp [Instr.sameBits, rteW]
    first | exact beq_self_eq_true _ | (show (_ : Bool) = true; exact beq_iff_eq.2 rfl) | (show Array.isEqv _ _ _ = true; simp) | (show ((_ : Array UInt8) == _) = true; simp) | rfl
end Go.Proofs.YtenolkolkpfjgaaGreat.Ab

namespace Go.Proofs.YtenolkolkpfjgaaGreat.Ab
set_option linter.unusedVariables false
open Go.RowKit
section
variable {P : Program} {nt : Nat} {T : List Nat} {Q0 : Post} {ops : Array Oper} {rest : List Oper} {e : Env} {h : Heap} {o : Oper} {tab : TTab}
theorem E_callTV {f : FuncId} {args : Array Operand} {ats : Array TypeId} {cs0 cs1 caps cs : List AVal} {x : Operand} {h0 : Heap} {d : Option Tmp} {Q : AVal → Heap → Prop} (ρ ν : List (Nat × Nat)) (p0 i0 : Nat) (ho : o.op = .call { callee := .value x, args := args, argTypes := ats }) (hdst : o.dst = d) (hf : aev e x = some (.fn f caps)) (hx : aevs e args.toList = some cs1) (hcc : cs1 ++ caps = cs0)
    (hcs : cs.map (renV (ρ ++ [(p0, i0)])) = cs0) (hok : ∀ c ∈ cs, okV (ρ ++ [(p0, i0)]) c = true) (hl : Lent (ρ ++ [(p0, i0)]) h h0) (hdom : ∀ p i, look ρ p = some i → 1000 ≤ p ∧ (look h0 p).isSome = true) (hinj : ∀ p p' i, look ρ p = some i → look ρ p' = some i → p = p')
    (hρn : (ρ.map (·.1)).Nodup) (hp0 : p0 < 1000) (hp1 : (look h0 p0).isSome = true) (hi0 : ∃ q, look ν q = some i0)
    (H : ACall P f cs h0 Q) (hd : dstOk nt d = true)
    (hν : ∀ p i, look ν p = some i → p < 1000 ∧ i < 1000 ∧ ∀ q, look ρ q ≠ some i) (hνinj : ∀ p p' i, look ν p = some i → look ν p' = some i → p = p') (hνn : (ν.map (·.1)).Nodup)
    (hq : ∀ c h', Q c h' → ∀ p i, look ρ p = some i → (look h' p).isSome = true) :
    AEff P nt (ρ.map (·.2) ++ [i0]) e h o (fun e' h2 => ∃ c h', Q c h' ∧ e' = aput d (renV (ν ++ ρ) c) (killEs (ν.map (·.2)) e) ∧ h2 = renH (ν ++ ρ) h' ++ killHs (ν.map (·.2)) h) := fun Pm F w0 pin ι a w R K Qx hK => by
  have hfv := aev_rel R.env hf
  generalize hau : a.eval x = u at hfv
  cases hfv with
  | fn _ _ C hlC hhC =>
  unfold Oper.wp
  rw [run_callV H.1 ho hau, Oper.upon_enter, hdst]
  have HR := R.heap
  obtain ⟨q0, hq0⟩ := hi0
  have hs0 : ∀ p i, look (ρ ++ [(p0, i0)]) p = some i → look ρ p = some i ∨ (p = p0 ∧ i = i0) := fun p i hp => by
    rw [look_append] at hp
    cases h1 : look ρ p with
    | some j => rw [h1] at hp; cases hp; exact .inl rfl
    | none =>
      rw [h1] at hp
      have hp : look [(p0, i0)] p = some i := hp
      by_cases h2 : p0 = p
      · subst h2; rw [look_cons_same] at hp; cases hp; exact .inr ⟨rfl, rfl⟩
      · rw [look_cons_ne _ _ h2] at hp; cases hp
  have hs1 : ∀ p i, look ρ p = some i → look (ρ ++ [(p0, i0)]) p = some i := fun p i hp => by rw [look_append, hp]
  have hs2 : look (ρ ++ [(p0, i0)]) p0 = some i0 := by
    rw [look_append]
    cases h1 : look ρ p0 with
    | some j => have := (hdom p0 j h1).1; omega
    | none => exact look_cons_same _ _ _
  have hinj0 : ∀ p p' i, look (ρ ++ [(p0, i0)]) p = some i → look (ρ ++ [(p0, i0)]) p' = some i → p = p' := fun p p' i h1 h2 => by
    rcases hs0 p i h1 with h3 | ⟨h3, h5⟩ <;> rcases hs0 p' i h2 with h4 | ⟨h4, h6⟩
    · exact hinj p p' i h3 h4
    · subst h6; exact absurd h3 ((hν q0 i hq0).2.2 p)
    · subst h5; exact absurd h4 ((hν q0 i hq0).2.2 p')
    · rw [h3, h4]
  let ι0 : Nat → Option Value := fun p => match look (ρ ++ [(p0, i0)]) p with | some i => ι i | none => none
  have h0some : ∀ p v, ι0 p = some v → ∃ i, look (ρ ++ [(p0, i0)]) p = some i ∧ ι i = some v := fun p v hv => by
    simp only [ι0] at hv
    cases hp : look (ρ ++ [(p0, i0)]) p with
    | none => rw [hp] at hv; cases hv
    | some i => rw [hp] at hv; exact ⟨i, rfl, hv⟩
  have h0of0 : ∀ p i, look (ρ ++ [(p0, i0)]) p = some i → ι0 p = ι i := fun p i hp => by simp only [ι0, hp]
  have h0of : ∀ p i, look ρ p = some i → ι0 p = ι i := fun p i hp => h0of0 p i (hs1 p i hp)
  have hdom0 : ∀ p i, look (ρ ++ [(p0, i0)]) p = some i → (look h0 p).isSome = true := fun p i hp => by
    rcases hs0 p i hp with h1 | ⟨h1, _⟩
    · exact (hdom p i h1).2
    · rw [h1]; exact hp1
  let F' : Nat → Prop := fun r => F r ∨ ∃ id v, ι id = some v ∧ blockOf v = some r ∧ ∀ p, look (ρ ++ [(p0, i0)]) p ≠ some id
  let Pm' : Nat → Prop := fun r => w.heap.size ≤ r ∨ ∃ p v, ι0 p = some v ∧ blockOf v = some r
  have hFdown : ExtF w F ι w F' ι0 := ⟨fun _ _ _ => rfl, fun r _ hf => ⟨fun hc => hc.elim hf.1 fun ⟨id, v, h1, h2, _⟩ => hf.2 id v h1 h2, fun p v hv hb => by
    obtain ⟨i, _, h2⟩ := h0some p v hv
    exact hf.2 i v h2 hb⟩⟩
  have HC : HRel Pm' F' w ι0 ι0 h0 w := by
    refine ⟨fun p b hb => ?_, fun p v hv => ?_, fun p q v v' r hpq hv hv' hr => ?_, fun p v r hv hr => .inr ⟨p, v, hv, hr⟩, rfl, rfl, rfl, Nat.le_refl _, fun _ _ _ => rfl, fun r hr => .inl hr, fun p v _ hv => hv, fun p v r hv hr hF' => ?_, fun r hr => ?_⟩
    · obtain ⟨i, h1, h2, h3⟩ := hl.get hb
      obtain ⟨v, hv, hB⟩ := HR.blk i _ h2
      exact ⟨v, by rw [h0of0 p i h1]; exact hv, hB.down h3 hFdown h0some⟩
    · obtain ⟨i, h1, h2⟩ := h0some p v hv
      exact Option.isSome_iff_exists.1 (hdom0 p i h1)
    · obtain ⟨i, h1, h2⟩ := h0some p v hv
      obtain ⟨j, h3, h4⟩ := h0some q v' hv'
      exact HR.inj i j v v' r (by rintro rfl; exact hpq (hinj0 p q i h1 h3)) h2 h4 hr
    · obtain ⟨i, h1, h2⟩ := h0some p v hv
      rcases hF' with h3 | ⟨id, v', h3, h4, h5⟩
      · exact HR.nf i v r h2 hr h3
      · have : i ≠ id := by rintro rfl; exact h5 p h1
        exact HR.inj i id v v' r this h2 h3 hr h4
    · rcases hr with h1 | ⟨id, v, h1, h2, _⟩
      · exact Nat.lt_of_lt_of_le (HR.forb r h1) HR.size
      · exact HR.lt h1 h2
  have HA0 : ArgsRel w F ι cs0 (args.map a.eval ++ C) := by
    have hA := args_of R.env hx
    subst hcc
    refine ⟨by simp [hlC]; exact by simpa using hA.1, fun i c u h1 h2 => ?_⟩
    have hAl : (args.map a.eval).size = cs1.length := hA.1
    by_cases hi : i < cs1.length
    · rw [List.getElem?_append_left hi] at h1
      rw [Array.getElem?_append_left (by omega)] at h2
      exact hA.2 i c u h1 h2
    · rw [List.getElem?_append_right (by omega)] at h1
      rw [Array.getElem?_append_right (by omega), hAl] at h2
      exact hhC _ c u h1 h2
  have HA : ArgsRel w F' ι0 cs (args.map a.eval ++ C) := by
    refine ⟨by rw [HA0.1, ← hcs, List.length_map], fun i c u h1 h2 => (HA0.2 i (renV (ρ ++ [(p0, i0)]) c) u (by rw [← hcs, List.getElem?_map, h1]; rfl) h2).down (hok c (List.mem_of_getElem? h1)) hFdown h0some⟩
  refine (H.2 Pm' F' w ι0 ι0 _ w HC HA).mono ?_
  rintro x w' ⟨u, c, h', ι', rfl, hQ, hH, hv⟩
  have hsz := hH.size
  have hkeep : ∀ r, r < w.heap.size → (∀ p i v, look (ρ ++ [(p0, i0)]) p = some i → ι i = some v → blockOf v ≠ some r) → w'.heap[r]? = w.heap[r]? := fun r hr hn => hH.keep r hr fun hp => by
    rcases hp with h1 | ⟨p, v, h1, h2⟩
    · omega
    · obtain ⟨i, h3, h4⟩ := h0some p v h1
      exact hn p i v h3 h4 h2
  have hpin : ∀ p i, look ρ p = some i → ∀ v, ι i = some v → ι' p = some v := fun p i hp v hv => by
    obtain ⟨b, hb⟩ := Option.isSome_iff_exists.1 (hq c h' hQ p i hp)
    obtain ⟨v', hv', _⟩ := hH.blk p b hb
    have := hH.pinned p v' (hdom p i hp).1 hv'
    rw [h0of p i hp, hv] at this
    cases this
    exact hv'
  have hσ : ∀ p i, look (ν ++ ρ) p = some i → look ν p = some i ∨ look ρ p = some i := fun p i hp => by
    rw [look_append] at hp
    cases h1 : look ν p with
    | some j => rw [h1] at hp; cases hp; exact .inl rfl
    | none => rw [h1] at hp; exact .inr hp
  have hσν : ∀ p i, look ν p = some i → look (ν ++ ρ) p = some i := fun p i hp => by rw [look_append, hp]
  have hσinj : ∀ p p' i, look (ν ++ ρ) p = some i → look (ν ++ ρ) p' = some i → p = p' := fun p p' i h1 h2 => by
    rcases hσ p i h1 with h3 | h3 <;> rcases hσ p' i h2 with h4 | h4
    · exact hνinj p p' i h3 h4
    · exact absurd h4 ((hν p i h3).2.2 p')
    · exact absurd h3 ((hν p' i h4).2.2 p)
    · exact hinj p p' i h3 h4
  let ι2 : Nat → Option Value := fun id => match invN ν id with | some p => ι' p | none => ι id
  have i2 : ∀ id v, ι2 id = some v → (∃ p, look ν p = some id ∧ ι' p = some v) ∨ (∀ p, look ν p ≠ some id) ∧ ι id = some v := fun id v hv => by
    simp only [ι2] at hv
    cases hi : invN ν id with
    | some p => rw [hi] at hv; exact .inl ⟨p, invN_some hi, hv⟩
    | none => rw [hi] at hv; exact .inr ⟨invN_none hi, hv⟩
  have i2ν : ∀ p id, look ν p = some id → ι2 id = ι' p := fun p id hp => by simp only [ι2, invN_of hνinj hp]
  have i2o : ∀ id, (∀ p, look ν p ≠ some id) → ι2 id = ι id := fun id hn => by
    simp only [ι2]
    cases hi : invN ν id with
    | some p => exact absurd (invN_some hi) (hn p)
    | none => rfl
  have newlt : ∀ p id v r, look ν p = some id → ι' p = some v → blockOf v = some r → w.heap.size ≤ r ∨ ∃ v2, ι i0 = some v2 ∧ blockOf v2 = some r := fun p id v r hp hv hr => by
    rcases hH.pm p v r hv hr with h1 | ⟨q, v2, h1, h2⟩
    · exact .inl h1
    · obtain ⟨i, h30, h4⟩ := h0some q v2 h1
      rcases hs0 q i h30 with h3 | ⟨_, h3⟩
      rotate_left
      · subst h3; exact .inr ⟨v2, h4, h2⟩
      have h5 := hpin q i h3 v2 h4
      have h6 := (hν p id hp).1
      have h7 := (hdom q i h3).1
      exact absurd h2 (hH.inj p q v v2 r (by omega) hv h5 hr)
  have hFup : ExtF w' F' ι' w' F ι2 := ⟨fun _ _ _ => rfl, fun r _ hf => ⟨fun hc => hf.1 (.inl hc), fun id v hid hb => by
    rcases i2 id v hid with ⟨p, _, h2⟩ | ⟨h1, h2⟩
    · exact hf.2 p v h2 hb
    · by_cases hex : ∃ p, look ρ p = some id
      · obtain ⟨p, hp⟩ := hex
        exact hf.2 p v (hpin p id hp v h2) hb
      · exact hf.1 (.inr ⟨id, v, h2, hb, fun p hp => (hs0 p id hp).elim (fun h3 => hex ⟨p, h3⟩) fun h3 => h1 q0 (by rw [h3.2]; exact hq0)⟩)⟩⟩
  have hup : ∀ p i, look (ν ++ ρ) p = some i → ∀ v, ι2 i = some v → ι' p = some v := fun p i hp v hv => by
    rcases hσ p i hp with h1 | h1
    · rw [i2ν p i h1] at hv; exact hv
    · rcases i2 i v hv with ⟨q, h2, _⟩ | ⟨_, h2⟩
      · exact absurd h1 ((hν q i h2).2.2 p)
      · exact hpin p i h1 v h2
  have hext : Ext w F ι w' ι2 := ⟨fun r hr hf => hkeep r hr fun p i v hp hi hb => hf.2 i v hi hb, fun r hr hf => ⟨hf.1, fun id v hid hb => by
    rcases i2 id v hid with ⟨p, h1, h2⟩ | ⟨_, h2⟩
    · rcases newlt p id v r h1 h2 hb with h3 | ⟨v2, h3, h4⟩
      · omega
      · exact hf.2 i0 v2 h3 h4
    · exact hf.2 id v h2 hb⟩⟩
  have hold : ∀ id, (ν.map (·.2)).contains id = false → ∀ p, look ν p ≠ some id := fun id hc p hp => by
    have := List.contains_iff_mem.2 (look_mem2 hp)
    rw [hc] at this; cases this
  have vk : ∀ c0 u0, VRel w F ι c0 u0 → VRel w' F ι2 (killVs (ν.map (·.2)) c0) u0 := fun c0 u0 hv => by
    unfold killVs
    cases hh : hasAny (ν.map (·.2)) c0 with
    | true => exact .top _
    | false =>
      refine hv.ext hext fun id v hi hv2 => ?_
      rcases i2 id v hv2 with ⟨p, h1, h2⟩ | ⟨_, h2⟩
      · have := List.any_eq_false.1 hh id (look_mem2 h1)
        rw [hi] at this; exact absurd rfl this
      · exact h2
  have hheap : HRel Pm F w0 pin ι2 (renH (ν ++ ρ) h' ++ killHs (ν.map (·.2)) h) w' := by
    refine ⟨fun id b hb => ?_, fun id v hv => ?_, fun i j v v' r hij hi hj hr => ?_, fun i v r hi hr => ?_, hH.os.trans HR.os, hH.tape.trans HR.tape, hH.output.trans HR.output, Nat.le_trans HR.size hsz, fun r hr hn => ?_, HR.fresh, fun id v h1 hv => ?_, fun i v r hi hr => ?_, HR.forb⟩
    · rw [look_append] at hb
      cases hl2 : look (renH (ν ++ ρ) h') id with
      | some b' =>
        rw [hl2] at hb
        cases hb
        obtain ⟨p, b0, h1, h2, h3⟩ := (look_renH hσinj h' id).1 b hl2
        subst h3
        obtain ⟨v', hv', hB⟩ := hH.blk p b0 h2
        refine ⟨v', ?_, hB.up hFup hup⟩
        rcases hσ p id h1 with h3 | h3
        · rw [i2ν p id h3]; exact hv'
        · have h4 := hH.pinned p v' (hdom p id h3).1 hv'
          rw [h0of p id h3] at h4
          rw [i2o id fun q hq2 => (hν q id hq2).2.2 p h3]
          exact h4
      | none =>
        rw [hl2] at hb
        rw [look_killHs] at hb
        cases hc : (ν.map (·.2)).contains id with
        | true => rw [hc] at hb; simp at hb
        | false =>
          rw [hc] at hb
          simp only [Bool.false_eq_true, if_false] at hb
          cases hl3 : look h id with
          | none => simp [hl3] at hb
          | some b0 =>
            simp [hl3] at hb
            subst hb
            have hno : ∀ p, look (ρ ++ [(p0, i0)]) p ≠ some id := fun p hpp => by
              rcases hs0 p id hpp with hp | ⟨_, h3⟩
              rotate_left
              · subst h3; exact absurd hq0 (hold id hc q0)
              have h1 := (look_renH hσinj h' id).2 hl2 p (by
                rw [look_append]
                cases h2 : look ν p with
                | some j => have h3 := (hν p j h2).1; have h4 := (hdom p id hp).1; omega
                | none => exact hp)
              have h2 := hq c h' hQ p id hp
              rw [h1] at h2; cases h2
            obtain ⟨v, hv, hB⟩ := HR.blk id b0 hl3
            have hsame : ∀ r, blockOf v = some r → w'.heap[r]? = w.heap[r]? := fun r hr => hkeep r (HR.lt hv hr) fun p i v2 hp hi hb3 =>
              HR.inj i id v2 v r (by rintro rfl; exact hno p hp) hi hv hb3 hr
            refine ⟨v, by rw [i2o id (hold id hc)]; exact hv, ?_⟩
            cases b0 with
            | var cs =>
              obtain ⟨r, C, tt, rfl, h2, h3, h4⟩ := hB
              refine ⟨r, C, tt, rfl, (hsame r rfl).trans h2, by simpa using h3, fun i c u h5 h6 => ?_⟩
              rw [List.getElem?_map] at h5
              cases h7 : cs[i]? with
              | none => simp [h7] at h5
              | some c0 => simp [h7] at h5; subst h5; exact vk _ _ (h4 i c0 u h7 h6)
            | row el k n cs =>
              obtain ⟨xs, hown, h3, h4⟩ := hB
              refine ⟨xs, ⟨hown.1, ?_⟩, h3, fun i c u h5 h6 => (h4 i c u h5 h6).ext hext.mem hext.free⟩
              rcases hown.2 with h8 | ⟨g, cap, cur, rfl, hb, hg, rest⟩
              · exact .inl h8
              · exact .inr ⟨g, cap, cur, rfl, hb, (hsame g rfl).trans hg, rest⟩
            | rowA el k n cs =>
              obtain ⟨xs, hown, h3, h4⟩ := hB
              refine ⟨xs, ⟨hown.1, ?_⟩, by simpa using h3, fun i c u h5 h6 => ?_⟩
              · rcases hown.2 with h8 | ⟨g, cap, cur, rfl, hb, hg, rest⟩
                · exact .inl h8
                · exact .inr ⟨g, cap, cur, rfl, hb, (hsame g rfl).trans hg, rest⟩
              · rw [List.getElem?_map] at h5
                cases h7 : cs[i]? with
                | none => simp [h7] at h5
                | some c0 => simp [h7] at h5; subst h5; exact vk _ _ (h4 i c0 u h7 h6)
            | map es =>
              obtain ⟨r, E, clk, rfl, h2, h3, h4, h5⟩ := hB
              refine ⟨r, E, clk, rfl, (hsame r rfl).trans h2, by simpa using h3, fun i p m h6 h7 => ?_, h5⟩
              rw [List.getElem?_map] at h6
              cases h8 : es[i]? with
              | none => simp [h8] at h6
              | some p0 => simp [h8] at h6; subst h6; exact ⟨vk _ _ (h4 i p0 m h8 h7).1, vk _ _ (h4 i p0 m h8 h7).2⟩
            | mapx r0 bs0 clk0 es =>
              obtain ⟨E, rfl, h2, h3, h4, h5⟩ := hB
              refine ⟨E, rfl, (hsame _ rfl).trans h2, by simpa using h3, fun i p m h6 h7 => ?_, h5⟩
              rw [List.getElem?_map] at h6
              cases h8 : es[i]? with
              | none => simp [h8] at h6
              | some p0 => simp [h8] at h6; subst h6; exact ⟨vk _ _ (h4 i p0 m h8 h7).1, vk _ _ (h4 i p0 m h8 h7).2⟩
            | rowx hv el k n cs => exact hB.viaX (fun c u h => h.ext hext.mem hext.free) hsame
            | it o => obtain ⟨r, rfl, h2⟩ := hB; exact ⟨r, rfl, (hsame r rfl).trans h2⟩
    · rw [look_append]
      cases hl2 : look (renH (ν ++ ρ) h') id with
      | some b' => exact ⟨b', rfl⟩
      | none =>
        rcases i2 id v hv with ⟨p, h1, h2⟩ | ⟨h1, h2⟩
        · obtain ⟨b, hb⟩ := hH.dom p v h2
          have := (look_renH hσinj h' id).2 hl2 p (hσν p id h1)
          rw [hb] at this; cases this
        · obtain ⟨b, hb⟩ := HR.dom id v h2
          refine ⟨killBs (ν.map (·.2)) b, ?_⟩
          show look (killHs _ h) id = _
          rw [look_killHs, hb]
          cases hc : (ν.map (·.2)).contains id with
          | true =>
            obtain ⟨p, hp⟩ := mem2_look hνn (List.contains_iff_mem.1 hc)
            exact absurd hp (h1 p)
          | false => rfl
    · rcases i2 i v hi with ⟨p, h1, h2⟩ | ⟨h1, h2⟩ <;> rcases i2 j v' hj with ⟨q, h3, h4⟩ | ⟨h3, h4⟩
      · exact hH.inj p q v v' r (by rintro rfl; rw [h1] at h3; cases h3; exact hij rfl) h2 h4 hr
      · intro hr'
        have := HR.lt h4 hr'
        rcases newlt p i v r h1 h2 hr with h5 | ⟨v2, h5, h6⟩
        · omega
        · exact HR.inj i0 j v2 v' r (by rintro rfl; exact h3 q0 hq0) h5 h4 h6 hr'
      · intro hr'
        have := HR.lt h2 hr
        rcases newlt q j v' r h3 h4 hr' with h5 | ⟨v2, h5, h6⟩
        · omega
        · exact HR.inj i0 i v2 v r (by rintro rfl; exact h1 q0 hq0) h5 h2 h6 hr
      · exact HR.inj i j v v' r hij h2 h4 hr
    · rcases i2 i v hi with ⟨p, h1, h2⟩ | ⟨_, h2⟩
      · rcases newlt p i v r h1 h2 hr with h5 | ⟨v2, h5, h6⟩
        · exact HR.fresh r (Nat.le_trans HR.size h5)
        · exact HR.pm i0 v2 r h5 h6
      · exact HR.pm i v r h2 hr
    · rw [hkeep r (Nat.lt_of_lt_of_le hr HR.size) fun p i v hp hi hb => hn (HR.pm i v r hi hb)]
      exact HR.keep r hr hn
    · rcases i2 id v hv with ⟨p, h2, h3⟩ | ⟨_, h3⟩
      · have := (hν p id h2).2.1; omega
      · exact HR.pinned id v h1 h3
    · intro hF
      rcases i2 i v hi with ⟨p, h2, h3⟩ | ⟨_, h3⟩
      · rcases newlt p i v r h2 h3 hr with h5 | ⟨v2, h5, h6⟩
        · have := HR.forb r hF
          have := HR.size
          omega
        · exact HR.nf i0 v2 r h5 h6 hF
      · exact HR.nf i v r h3 hr hF
  refine hK ι2 _ _ _ w' ⟨c, h', hQ, rfl, rfl⟩ ⟨hheap, EnvRel.aput (fun t c0 ht => ?_) hd R.size (hv.up hFup hup), by rw [put_defers]; exact R.defers.ext hext, by rw [put_size]; exact R.size⟩ ⟨⟨hH.os, hH.tape, hH.output, hsz, fun r hr hne => hkeep r hr fun p i v hp hi hb => hne i ((hs0 p i hp).elim (fun h1 => List.mem_append_left _ (look_mem2 h1)) fun h1 => by rw [h1.2]; simp) v hi hb⟩, fun id hid v r h1 h2 h3 => ?_⟩ (put_defers _ _ _)
  · rw [look_killEs] at ht
    cases hl1 : look e t with
    | none => simp [hl1] at ht
    | some c1 =>
      simp [hl1] at ht
      subst ht
      obtain ⟨u0, hu0, hv0⟩ := R.env t c1 hl1
      exact ⟨u0, hu0, vk _ _ hv0⟩
  · rcases i2 id v h1 with ⟨p, h4, h5⟩ | ⟨_, h5⟩
    · rcases newlt p id v r h4 h5 h2 with h6 | ⟨v2, h6, h7⟩
      · omega
      · rcases List.mem_append.1 hid with h8 | h8
        · have : ∃ q, look ρ q = some id := by
            exact mem2_look hρn h8
          obtain ⟨q, hq⟩ := this
          exact absurd hq ((hν p id h4).2.2 q)
        · have : id = i0 := by simpa using h8
          subst this
          exact ⟨v2, h6, h7⟩
    · exact ⟨v, h5, h2⟩
theorem O_cTV {α : Type} {f : FuncId} {args : Array Operand} {ats : Array TypeId} {cs0 cs1 caps cs : List AVal} {x : Operand} {h0 : Heap} {C : α → AVal} {H1 : α → Heap} {Φ : α → Prop} {d : Nat} (ρ ν : List (Nat × Nat)) (p0 i0 : Nat) (hinj : ∀ p p' i, look ρ p = some i → look ρ p' = some i → p = p') (hdom : ∀ p i, look ρ p = some i → 1000 ≤ p ∧ (look h0 p).isSome = true ∧ ∀ x, (look (H1 x) p).isSome = true)
    (hν : ∀ p i, look ν p = some i → p < 1000 ∧ i < 1000 ∧ ∀ q, look ρ q ≠ some i) (hνinj : ∀ p p' i, look ν p = some i → look ν p' = some i → p = p') (hνn : (ν.map (·.1)).Nodup) (hρn : (ρ.map (·.1)).Nodup) (hp0 : p0 < 1000) (hp1 : (look h0 p0).isSome = true) (hi0 : ∃ q, look ν q = some i0)
    (H : ACall P f cs h0 (fun c' h' => ∃ x, Φ x ∧ c' = C x ∧ h' = H1 x)) (hok : cs.all (okV (ρ ++ [(p0, i0)])) = true) (hl : Lent (ρ ++ [(p0, i0)]) h h0) (hw : awant ops e o = some true) (hdst : o.dst = some d) (hd : Nat.blt d nt = true) (ho : o.op = .call { callee := .value x, args := args, argTypes := ats }) (hf : aev e x = some (.fn f caps)) (hx : aevs e args.toList = some cs1) (hcc : cs1 ++ caps = cs0)
    (hcs : cs.map (renV (ρ ++ [(p0, i0)])) = cs0) (HK : ∀ x, Φ x → AOps P nt ops Q0 rest ((d, renV (ν ++ ρ) (C x)) :: killEs (ν.map (·.2)) e) (renH (ν ++ ρ) (H1 x) ++ killHs (ν.map (·.2)) h)) : AOps P nt ops Q0 (o :: rest) e h :=
  O_eff (T := ρ.map (·.2) ++ [i0]) hw (E_callTV ρ ν p0 i0 ho hdst hf hx hcc hcs (fun c hc => List.all_eq_true.1 hok c hc) hl (fun p i hp => ⟨(hdom p i hp).1, (hdom p i hp).2.1⟩) hinj hρn hp0 hp1 hi0 H hd hν hνinj hνn (fun c' h' ⟨x, _, _, h4⟩ p i hp => by subst h4; exact (hdom p i hp).2.2 x)) fun e' h' ⟨c', h2, ⟨x, h9, h3, h4⟩, h5, h6⟩ => by subst h3 h4 h5 h6; exact HK x h9
end
end Go.Proofs.YtenolkolkpfjgaaGreat.Ab

namespace Go.Proofs.YtenolkolkpfjgaaGreat.Ab
set_option linter.unusedVariables false
open Go.RowKit
section
variable {P : Program} {nt : Nat} {Q : Post} {e : Env} {h : Heap} {ops : Array Oper} {o : Oper} {rest : List Oper} {T : List Nat} {tab : TTab} {fuel i : Nat} {listed : Array Bool}
theorem ACall.reid {f : FuncId} {args : List AVal} {p id el k n : Nat} {ds : List Dat} (hid : Nat.blt id 1000 = true) (H : ACall P f args h (fun c h' => c = .row p ∧ h' = [(p, .row el k n ds)])) : ACall P f args h (fun c h' => c = .row id ∧ h' = [(id, .row el k n ds)]) :=
  ⟨H.1, fun Pm F w0 pin ι0 us w a b => (H.2 Pm F w0 pin ι0 us w a b).mono fun x w' ⟨u, c, h', ι, h1, ⟨h2, h3⟩, H, hv⟩ => by
    subst h2 h3
    have hid' : id < 1000 := by simp [Nat.blt] at hid; omega
    obtain ⟨v, hvv, xs, hown, hxl, hxr⟩ := H.blk p _ (look_cons_same _ _ _)
    have hι : ∀ i u, (fun i => if i = id then ι p else none) i = some u → i = id ∧ ι p = some u := fun i u hu => by
      dsimp only at hu
      split at hu
      · rename_i h; exact ⟨h, hu⟩
      · cases hu
    have hex : Ext w' F ι w' (fun i => if i = id then ι p else none) := ⟨fun _ _ _ => rfl, fun r _ hf => ⟨hf.1, fun i u hu => hf.2 p u (hι i u hu).2⟩⟩
    refine ⟨u, .row id, _, fun i => if i = id then ι p else none, h1, ⟨rfl, rfl⟩, ⟨fun i b hb => ?_, fun i u hu => ?_, fun i j u u' r hij hi hj => ?_, fun i u r hu => H.pm p u r (hι i u hu).2, H.os, H.tape, H.output, H.size, H.keep, H.fresh, fun i u h1 hu => ?_, fun i u r hu => H.nf p u r (hι i u hu).2, H.forb⟩, ?_⟩
    · by_cases h1 : id = i
      · subst h1
        rw [look_cons_same] at hb
        cases hb
        exact ⟨v, by simp only [if_true]; exact hvv, xs, hown, hxl, fun i c u h3 h4 => (hxr i c u h3 h4).ext (fun _ _ _ => rfl) fun r hr hf => hex.free r hr hf⟩
      · rw [look_cons_ne _ _ h1] at hb; cases hb
    · obtain ⟨rfl, _⟩ := hι i u hu
      exact ⟨_, look_cons_same _ _ _⟩
    · exact absurd ((hι i u hi).1.trans (hι j u' hj).1.symm) hij
    · obtain ⟨rfl, _⟩ := hι i u hu
      omega
    · cases hv with
      | row _ _ g1 g2 => exact .row id u g1 fun v2 hv2 => g2 v2 (hι id v2 hv2).2⟩
end
end Go.Proofs.YtenolkolkpfjgaaGreat.Ab

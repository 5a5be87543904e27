/-
  Texts of a proof, one behind the other (part 21).
-/
import Derived.Test.YtenolkolkpfjgaaGreatFt8
import Derived.Test.YtenolkolkpfjgaaGreatFt15
import Derived.Test.YtenolkolkpfjgaaGreatFt19
set_option linter.unusedVariables false
set_option linter.unusedSimpArgs false
namespace Go.Proofs.YtenolkolkpfjgaaGreat
set_option linter.unusedVariables false
open Go.RowKit Go.Lib
theorem cmpP_ord (p q : Pfx) : cmpP p q = ordP p q := by
  obtain ⟨a, b⟩ := p
  obtain ⟨c, d⟩ := q
  unfold cmpP ordP lexc c2
  simp only [Pfx.mk.injEq]
  repeat' split
  all_goals omega
theorem ordP_eq (x y : Pfx) (h : ordP x y = 0) : x = y := (ordP_zero x y).1 h
def pfxL (p : Pfx) : List Value := [.int .u32 p.a, .int .i64 p.b]
namespace Ab
def pfxB (l : List Pfx) : ABlk := .row 39 2 l.length (l.flatMap pfxD)
theorem pfxCmp_A (p q : Pfx) : ACall Tryz.prog 34 [pfxA p, pfxA q] [] (Just (intA (ordP p q))) := by
  rw [← cmpP_ord]; exact cmp_A p q
end Ab
section
open Go.RowKit Go.Sort Go.Lib
set_option maxRecDepth 100000
theorem insNilP (c : Value) (w : World) : Calls Tryz.prog 65 #[.slice none 0 0, .int .i64 0, .int .i64 0, c] w (RetS w (.tuple #[])) := by
  go_enter Tryz.func65, Tryz.ntmps65
  go_wp2_with fail
  refine wp_loop_rounds 1 ?_
  rw [rounds_succ]; go_wp2_with fail
  go_end0
  exact ⟨rfl, rfl⟩
theorem pdqNilP (c : Value) (w : World) (n : Int) : Calls Tryz.prog 46 #[.slice none 0 0, .int .i64 0, .int .i64 0, .int .i64 n, c] w (RetS w (.tuple #[])) := by
  go_enter Tryz.func46, Tryz.ntmps46
  go_wp2_with fail
  refine wp_loop_rounds 1 ?_
  rw [rounds_succ]; go_wp2_with fail
  refine (insNilP c _).mono ?_
  rintro e w' ⟨rfl, rfl⟩
  go_wp2_with fail
  go_end0
  exact ⟨rfl, rfl⟩
theorem sortNilP (c : Value) (w : World) : Calls Tryz.prog 33 #[.slice none 0 0, c] w (RetS w (.tuple #[])) := by
  have hl := fun W => Any.bits_Len (SlLaysF0.n15.bits (P := _) (ρ := _) { Tryz.sortPrefix with }) (0 : Int) W (by omega) (by omega)
  go_enter Tryz.func33, Tryz.ntmps33
  go_wp2_with fail
  refine (hl _).mono ?_
  rintro e w' ⟨rfl, rfl⟩
  go_wp2_with fail
  refine (pdqNilP c _ _).mono ?_
  rintro e w' ⟨rfl, rfl⟩
  go_wp2_with fail
  go_end0
  exact ⟨rfl, rfl⟩
end
namespace Ab
set_option maxRecDepth 100000
open Go.RowKit Go.Lib
set_option linter.unusedSimpArgs false
attribute [local irreducible] AWp AOps AQ AYield AEff ACall AWk AAny AAt AThen AIn APost NoPanic
theorem sortO_A (l : List Pfx) (hn : l.length ≤ 2147483648) : ACall Tryz.prog 33 [.row 1000, .fn 34 []] [(1000, pfxB l)] (fun c h => c = .tup [] ∧ h = [(1000, pfxB (srt ordP l))]) := by
  have := sortG (α := Pfx) Tryz.sortPrefix (f := 33) (el := 39) (k := 2) rfl (by kernel_rfl) (fun W => Tryz.isAgg39 W) (fun W => Tryz.sizeOf39 W) (enc := pfxL) (fun _ => rfl)
    (fun x v hv => by simp [pfxL] at hv; rcases hv with rfl | rfl <;> rfl) (eA := pfxA) (fun _ => rfl) (fun _ => rfl) (eD := pfxD) (fun _ => rfl) good_ordP ordP_eq (g := 34) pfxCmp_A (fun w => (sortNilP _ w).mono fun e w' h => ⟨h.1, h.2.symm⟩) l hn
  unfold pfxB
  rw [srt_len]
  exact this
structure CptP (l m : List Pfx) (k q : Nat) : Prop where
  len : m.length = l.length
  q1 : q ≤ l.length
  kq : k < q
  k0 : 0 < k
  front : m.take k = dedA (l.take q)
  back : ∀ i, q ≤ i + 1 → m[i]? = l[i]?
theorem cptP_next {l m : List Pfx} {k q : Nat} (C : CptP l m k q) (h : q < l.length) (he : l[q - 1]'(by omega) = l[q]) : CptP l m k (q + 1) := by
  have := C.kq
  have := C.k0
  refine ⟨C.len, by omega, by omega, C.k0, ?_, fun i hi => C.back i (by omega)⟩
  rw [ded_take l q (by omega) h, if_pos he, C.front]
theorem cptP_put {l m : List Pfx} {k q : Nat} (C : CptP l m k q) (h : q < l.length) (he : l[q - 1]'(by omega) ≠ l[q]) : CptP l (m.set k l[q]) (k + 1) (q + 1) := by
  have h1 := C.kq
  have h2 := C.k0
  have h3 := C.len
  refine ⟨by rw [List.length_set, h3], by omega, by omega, by omega, ?_, fun i hi => ?_⟩
  · rw [ded_take l q (by omega) h, if_neg he, ← C.front, List.take_succ_eq_append_getElem (by rw [List.length_set]; omega), List.getElem_set_self, List.take_set_of_le (Nat.le_refl _)]
  · rw [List.getElem?_set_ne (by omega)]
    exact C.back i (by omega)
theorem winP_at (l : List Pfx) (k : Nat) (h : k < l.length) : win (l.flatMap pfxD) (k * 2) 2 = pfxD l[k] := win_flat0 pfxD_len l k 2 h (by decide)
theorem winP_part (l : List Pfx) (a b : Nat) (h : a + b < l.length) : win (l.flatMap pfxD) (a * 2 + b * 2) 2 = pfxD l[a + b] := by rw [← Nat.add_mul]; exact winP_at l (a + b) h
set_option maxHeartbeats 8000000 in
theorem compactP_A (l : List Pfx) (hn : l.length ≤ 2147483648) : ACall Tryz.prog 35 [.row 1000] [(1000, pfxB l)] (fun c h => c = .row 100 ∧ h = [(100, pfxB (dedA l))]) := by
  refine ACall_of tabOk Tryz.func35 rfl Tryz.ntmps35 (congrArg Array.toList Tryz.results35) (by kernel_rfl) rfl ?_
  refine A_weaken (Wk_rename (id := 100) (t := 0) rfl rfl) ?_
  by_cases h2 : l.length < 2
  · have hd : dedA l = l := by match l, h2 with | [], _ => rfl | [x], _ => rfl
    rw [hd]
    repeat (first | refine q_Z ?_ | refine R_quiet rfl mixed (by kernel_rfl) ?_ | ((first | apply O_y rfl rfl rfl | apply Q_y rfl rfl rfl); (first | exact q_A | exact q_5 | exact q_B)) | refine q_d ?_ | refine q_a ?_ | refine q_b ?_ | refine q_c ?_ | refine A_ct rfl ?_ | refine A_cf rfl ?_ | refine q_W ?_)
    exact X_retW AWk.refl rfl (h2 := [(100, pfxB l)]) ⟨rfl, trivial⟩ ⟨rfl, rfl⟩
  ·
    repeat (first | refine q_Z ?_ | refine R_quiet rfl mixed (by kernel_rfl) ?_ | ((first | apply O_y rfl rfl rfl | apply Q_y rfl rfl rfl); (first | exact q_A | exact q_5 | exact q_B)) | refine q_d ?_ | refine q_a ?_ | refine q_b ?_ | refine q_c ?_ | refine A_ct rfl ?_ | refine A_cf rfl ?_ | refine q_W ?_)
    refine A_loop (fun k : Nat => [(0, .row 100), (3, intA (k : Int))]) (fun _ => [(100, pfxB l)]) (fun k => 1 ≤ k ∧ k ≤ l.length ∧ dedA (l.take k) = l.take k) (fun k => l.length - k) 1 ⟨by omega, by omega, ?_⟩ (Wk_sel ⟨rfl, rfl, trivial⟩ ⟨rfl, trivial⟩) ?_
    · match l with
      | [] => rfl
      | x :: r => rfl
    rintro k ⟨hk1, hk2, hd⟩
    dsimp only
    by_cases hlt : k < l.length
    · have hlt1 : k - 1 < l.length := by omega
      have hk' : ((k : Int) - 1) = ((k - 1 : Nat) : Int) := by omega
      have heq := pfxEq l[k] l[k - 1]
      have hw0 := winP_at l k hlt
      have hw1 := winP_at l (k - 1) hlt1
      by_cases he : l[k] = l[k - 1]
      · rw [show (l[k] == l[k - 1]) = true by simpa using he] at heq
        repeat (first | refine q_Z ?_ | refine R_quiet rfl mixed (by kernel_rfl) ?_ | ((first | apply O_y rfl rfl rfl | apply Q_y rfl rfl rfl); (first | exact q_A | exact q_5 | exact q_B | (first | exact R_indexr tabOk rfl rfl rfl rfl rfl rfl hk' hlt1 | exact R_loade tabOk rfl rfl rfl rfl rfl rfl hw0 rfl rfl | exact R_loade tabOk rfl rfl rfl rfl rfl rfl hw1 rfl rfl | exact Y_eq tabOk noStand rfl rfl rfl rfl rfl rfl rfl rfl rfl (by kernel_rfl) heq rfl | exact R_rowFrom tabOk rfl rfl rfl rfl rfl rfl rfl (Nat.le_of_lt hlt)))) | refine q_d ?_ | refine q_a ?_ | refine q_b ?_ | refine q_c ?_ | refine A_ct rfl ?_ | refine A_cf rfl ?_ | refine q_W ?_)
        refine A_loop (fun x : Nat × Nat × List Pfx => [(0, .row 100), (3, intA (x.1 : Int)), (4, .srow 100 (k * 2) (l.length - k)), (5, intA (x.2.1 : Int))]) (fun x => [(100, pfxB x.2.2)]) (fun x => 1 ≤ x.2.1 ∧ CptP l x.2.2 x.1 (k + x.2.1)) (fun x => l.length - x.2.1) (k, 1, l) ⟨Nat.le_refl _, rfl, hlt, Nat.lt_succ_self k, hk1, ?_, fun _ _ => rfl⟩ (Wk_sel ⟨rfl, rfl, rfl, rfl, trivial⟩ ⟨rfl, trivial⟩) ?_
        · rw [ded_take l k hk1 hlt, if_pos he.symm, hd]
        rintro ⟨K, j, m⟩ ⟨hj, C⟩
        dsimp only at hj C ⊢
        have c1 := C.len
        have c2 := C.q1
        have c3 := C.kq
        have c4 := C.k0
        by_cases hq : k + j < l.length
        · have hjk : j < l.length - k := by omega
          have hjk1 : j - 1 < l.length - k := by omega
          have hj' : ((j : Int) - 1) = ((j - 1 : Nat) : Int) := by omega
          have e1 : m[k + j]'(by omega) = l[k + j] := by
            have := C.back (k + j) (by omega)
            rw [List.getElem?_eq_getElem (by omega), List.getElem?_eq_getElem hq] at this
            exact Option.some.inj this
          have e2 : m[k + (j - 1)]'(by omega) = l[k + j - 1] := by
            have := C.back (k + (j - 1)) (by omega)
            rw [List.getElem?_eq_getElem (by omega), List.getElem?_eq_getElem (show k + (j - 1) < l.length by omega)] at this
            rw [Option.some.inj this]
            congr 1
            omega
          have hw2 := winP_part m k j (by omega)
          have hw3 := winP_part m k (j - 1) (by omega)
          rw [e1] at hw2
          rw [e2] at hw3
          have heq2 := pfxEq l[k + j] l[k + j - 1]
          by_cases hs : l[k + j - 1] = l[k + j]
          · rw [show (l[k + j] == l[k + j - 1]) = true by simpa using hs.symm] at heq2
            repeat (first | refine q_Z ?_ | refine R_quiet rfl mixed (by kernel_rfl) ?_ | ((first | apply O_y rfl rfl rfl | apply Q_y rfl rfl rfl); (first | exact q_A | exact q_5 | exact q_B | (first | exact R_lens tabOk rfl rfl rfl rfl | exact R_indexs tabOk rfl rfl rfl rfl rfl rfl rfl hjk | exact R_indexs tabOk rfl rfl rfl rfl rfl rfl rfl hjk1 | exact R_indexs tabOk rfl rfl rfl rfl rfl rfl hj' hjk1 | exact R_loade tabOk rfl rfl rfl rfl rfl rfl hw2 rfl rfl | exact R_loade tabOk rfl rfl rfl rfl rfl rfl hw3 rfl rfl | exact Y_eq tabOk noStand rfl rfl rfl rfl rfl rfl rfl rfl rfl (by kernel_rfl) heq2 rfl))) | refine q_d ?_ | refine q_a ?_ | refine q_b ?_ | refine q_c ?_ | refine A_ct rfl ?_ | refine A_cf rfl ?_ | refine q_W ?_)
            exact ⟨(K, j + 1, m), ⟨by dsimp only; omega, by dsimp only; exact cptP_next C hq hs⟩, by dsimp only; omega, Wk_sel ⟨rfl, rfl, rfl, rfl, trivial⟩ ⟨rfl, trivial⟩⟩
          · rw [show (l[k + j] == l[k + j - 1]) = false by simpa using fun h => hs h.symm] at heq2
            have hKm : K < m.length := by omega
            have hfl : (m.flatMap pfxD).length = m.length * 2 := flat_len pfxD_len m
            repeat (first | refine q_Z ?_ | refine R_quiet rfl mixed (by kernel_rfl) ?_ | ((first | apply O_y rfl rfl rfl | apply Q_y rfl rfl rfl); (first | exact q_A | exact q_5 | exact q_B | (first | exact R_lens tabOk rfl rfl rfl rfl | exact R_indexs tabOk rfl rfl rfl rfl rfl rfl rfl hjk | exact R_indexs tabOk rfl rfl rfl rfl rfl rfl rfl hjk1 | exact R_indexs tabOk rfl rfl rfl rfl rfl rfl hj' hjk1 | exact R_loade tabOk rfl rfl rfl rfl rfl rfl hw2 rfl rfl | exact R_loade tabOk rfl rfl rfl rfl rfl rfl hw3 rfl rfl | exact Y_eq tabOk noStand rfl rfl rfl rfl rfl rfl rfl rfl rfl (by kernel_rfl) heq2 rfl | exact R_indexr tabOk rfl rfl rfl rfl rfl rfl rfl hKm))) | refine q_d ?_ | refine q_a ?_ | refine q_b ?_ | refine q_c ?_ | refine A_ct rfl ?_ | refine A_cf rfl ?_ | refine q_W ?_ | (refine O_storee tabOk rfl rfl rfl rfl rfl rfl rfl rfl rfl rfl (by rw [hfl]; omega) (by omega) ?_))
            exact ⟨(K + 1, j + 1, m.set K l[k + j]), ⟨by dsimp only; omega, by dsimp only; exact cptP_put C hq hs⟩, by dsimp only; omega, Wk_sel ⟨rfl, rfl, rfl, rfl, trivial⟩ ⟨row_eq (by dsimp only; rw [List.length_set]) (flat_set pfxD_len m K l[k + j] hKm) rfl, trivial⟩⟩
        · have hK : K ≤ m.length := by omega
          have hq2 : k + j = l.length := by omega
          have hfl : (m.flatMap pfxD).length = m.length * 2 := flat_len pfxD_len m
          have hjl : ¬ ((j : Int) < ((l.length - k : Nat) : Int)) := by omega
          repeat (first | refine q_Z ?_ | refine R_quiet rfl mixed (by kernel_rfl) ?_ | ((first | apply O_y rfl rfl rfl | apply Q_y rfl rfl rfl); (first | exact q_A | exact q_5 | exact q_B | (first | exact R_lens tabOk rfl rfl rfl rfl | exact R_rowFrom tabOk rfl rfl rfl rfl rfl rfl rfl hK))) | refine q_d ?_ | refine q_a ?_ | refine q_b ?_ | refine q_c ?_ | refine A_ct rfl ?_ | refine A_cf rfl ?_ | refine q_W ?_)
          refine O_clear tabOk rfl rfl rfl rfl rfl rfl rfl rfl (by rw [Nat.sub_mul]; have := Nat.mul_le_mul_right 2 hK; omega) fun zs hzs => ?_
          repeat (first | refine q_Z ?_ | refine R_quiet rfl mixed (by kernel_rfl) ?_ | ((first | apply O_y rfl rfl rfl | apply Q_y rfl rfl rfl); (first | exact q_A | exact q_5 | exact q_B)) | refine q_d ?_ | refine q_a ?_ | refine q_b ?_ | refine q_c ?_ | refine A_ct rfl ?_ | refine A_cf rfl ?_ | refine q_W ?_ | (refine O_rowTo tabOk rfl rfl rfl rfl rfl rfl rfl rfl rfl rfl rfl hK ?_))
          have hfr : (setW (m.flatMap pfxD) (K * 2) zs).take (K * 2) = (dedA l).flatMap pfxD := by
            unfold setW
            rw [List.take_append_of_le_length (by rw [List.length_append, List.length_take, hfl]; have := Nat.mul_le_mul_right 2 hK; omega), List.take_append_of_le_length (by rw [List.length_take, hfl]; have := Nat.mul_le_mul_right 2 hK; omega), List.take_take, Nat.min_self, flat_take pfxD_len, C.front, hq2, List.take_length]
          have hlK : K = (dedA l).length := by
            have := congrArg List.length C.front
            rw [hq2, List.take_length, List.length_take] at this
            omega
          exact X_retW AWk.refl rfl (h2 := [(100, pfxB (dedA l))]) ⟨row_eq hlK hfr rfl, trivial⟩ ⟨rfl, rfl⟩
      · rw [show (l[k] == l[k - 1]) = false by simpa using he] at heq
        repeat (first | refine q_Z ?_ | refine R_quiet rfl mixed (by kernel_rfl) ?_ | ((first | apply O_y rfl rfl rfl | apply Q_y rfl rfl rfl); (first | exact q_A | exact q_5 | exact q_B | (first | exact R_indexr tabOk rfl rfl rfl rfl rfl rfl hk' hlt1 | exact R_loade tabOk rfl rfl rfl rfl rfl rfl hw0 rfl rfl | exact R_loade tabOk rfl rfl rfl rfl rfl rfl hw1 rfl rfl | exact Y_eq tabOk noStand rfl rfl rfl rfl rfl rfl rfl rfl rfl (by kernel_rfl) heq rfl))) | refine q_d ?_ | refine q_a ?_ | refine q_b ?_ | refine q_c ?_ | refine A_ct rfl ?_ | refine A_cf rfl ?_ | refine q_W ?_)
        exact ⟨k + 1, ⟨by omega, by omega, by rw [ded_take l k hk1 hlt, if_neg fun h => he h.symm, hd, ← List.take_succ_eq_append_getElem hlt]⟩, by omega, Wk_sel ⟨rfl, rfl, trivial⟩ ⟨rfl, trivial⟩⟩
    · have : k = l.length := by omega
      subst this
      rw [List.take_length] at hd
      rw [hd]
      repeat (first | refine q_Z ?_ | refine R_quiet rfl mixed (by kernel_rfl) ?_ | ((first | apply O_y rfl rfl rfl | apply Q_y rfl rfl rfl); (first | exact q_A | exact q_5 | exact q_B)) | refine q_d ?_ | refine q_a ?_ | refine q_b ?_ | refine q_c ?_ | refine A_ct rfl ?_ | refine A_cf rfl ?_ | refine q_W ?_)
      exact X_retW AWk.refl rfl (h2 := [(100, pfxB l)]) ⟨rfl, trivial⟩ ⟨rfl, rfl⟩
end Ab
end Go.Proofs.YtenolkolkpfjgaaGreat

namespace Go.Proofs.YtenolkolkpfjgaaGreat.Ab
set_option linter.unusedVariables false
set_option maxRecDepth 100000
open Go.RowKit Go.Lib
set_option linter.unusedSimpArgs false
attribute [local irreducible] AWp AOps AQ AYield AEff ACall AWk AAny AAt AThen AIn APost NoPanic
def goodP (l : List Rte) : List Pfx := (goodL l).map (·.p)
theorem goodP_take (l : List Rte) (k : Nat) (h : k < l.length) : goodP (l.take (k + 1)) = if chk l[k].p = 0 then goodP (l.take k) ++ [l[k].p] else goodP (l.take k) := by
  unfold goodP
  rw [goodL_take l k h]
  split
  · rw [List.map_append]; rfl
  · rfl

def tdH (el kk nn : Nat) (ds : List Dat) (G : Grp) (ps : List Pfx) : Heap := (1000, .var [.row 950]) :: (950, .row el kk nn ds) :: (5, pfxB ps) :: (90, gB (gE 100 G)) :: gR 100 G
abbrev tdE (l : List Rte) (f : FuncId) : Env := [(0, rtesA l), (1, .fn f [.ptr 1000 0]), (4, .mp 90), (5, .row 5)]
theorem see_tup2 {a b : AVal} : ∀ (w : World) (F : Nat → Prop) (ι : Nat → Option Value) (u : Value), VRel w F ι (.tup [a, b]) u → VRel w F ι (.tup [.top, b]) u := fun w F ι u h => by
  cases h with
  | tup _ C hl h =>
    refine .tup _ C hl fun i c u hc hu => ?_
    match i, hc, hu with
    | 0, hc, hu => cases hc; exact .top u
    | 1, hc, hu => exact h 1 c u hc hu
section
variable {el kk nn : Nat} {ds : List Dat} {G : Grp} {ps : List Pfx}
theorem td_none (j : Nat) (h : j < 100) (h5 : j ≠ 5) (h90 : j ≠ 90) : look (tdH el kk nn ds G ps) j = none := by
  unfold tdH
  rw [look_cons_ne _ _ (by omega), look_cons_ne _ _ (by omega), look_cons_ne _ _ (by omega), look_cons_ne _ _ (by omega)]
  cases hl : look (gR 100 G) j with
  | none => rfl
  | some b => obtain ⟨i, g, _, h2, _⟩ := gR_in _ _ _ _ hl; omega
theorem gR_kill (j : Nat) : ∀ (b : Nat) (G : Grp), (∀ i, i < G.length → b + i ≠ j) → killH j (gR b G) = gR b G
  | _, [], _ => rfl
  | b, g :: t, h => by
    have h0 := h 0 (by simp)
    show cond (Nat.beq b j) _ _ = _
    rw [beq_no (by simpa using h0), cond_false]
    show (b, rteB g.2) :: killH j (gR (b + 1) t) = _
    rw [gR_kill j (b + 1) t fun i hi => by have := h (i + 1) (by simpa using hi); omega]
    rfl
theorem gB_kill (j : Nat) (l : List (Pfx × GV)) (h : ∀ p ∈ l, p.2 ≠ .own j) : killB j (gB l) = gB l := by
  show ABlk.map ((ents pfxA gvA l).map fun p => (killV j p.1, killV j p.2)) = _
  rw [kill_gents, gK_out j l h]
  rfl
theorem gE_no (j : Nat) (G : Grp) (h : j < 100) : ∀ p ∈ gE 100 G, p.2 ≠ .own j := by
  rintro ⟨p, v⟩ hp
  obtain ⟨i, h1, h2, h3⟩ := gE_own _ _ _ _ hp
  dsimp only
  rw [h3]
  simp; omega
theorem td_kill (j : Nat) (h : j < 100) (h5 : j ≠ 5) (h90 : j ≠ 90) : killH j (tdH el kk nn ds G ps) = tdH el kk nn ds G ps := by
  have hk : ∀ (k : Nat) (b : ABlk) (r : Heap), k ≠ j → killH j ((k, b) :: r) = (k, killB j b) :: killH j r := fun k b r hne => by
    show cond (Nat.beq k j) _ _ = _
    rw [beq_no hne, cond_false]
  unfold tdH
  rw [hk _ _ _ (by omega), hk _ _ _ (by omega), hk _ _ _ (by omega), hk _ _ _ (by omega), gR_kill j 100 G fun i hi => by omega, gB_kill j]
  · show (1000, ABlk.var [killV j (.row 950)]) :: _ = _
    rw [show killV j (.row 950) = .row 950 by
      show cond (950 == j) _ _ = _
      rw [show ((950 : Nat) == j) = false by simp; omega]; rfl]
    rfl
  · rintro ⟨p, v⟩ hp
    obtain ⟨i, h1, h2, h3⟩ := gE_own _ _ _ _ hp
    dsimp only
    rw [h3]
    simp; omega
theorem td_over (j : Nat) (x : ABlk) {H : Heap} (hn : look (tdH el kk nn ds G ps) j = none) (hH : ∀ id b, look (tdH el kk nn ds G ps) id = some b → look H id = some b) : ∀ id b, look (tdH el kk nn ds G ps) id = some b → look ((j, x) :: H) id = some b := fun id b hb => by
  by_cases h : j = id
  · subst h; rw [hn] at hb; cases hb
  · rw [look_cons_ne _ _ h]; exact hH id b hb
theorem td_killup (j : Nat) (h : j < 100) (h5 : j ≠ 5) (h90 : j ≠ 90) {H : Heap} (hH : ∀ id b, look (tdH el kk nn ds G ps) id = some b → look H id = some b) : ∀ id b, look (tdH el kk nn ds G ps) id = some b → look (killH j H) id = some b := fun id b hb => by
  have hne : id ≠ j := by rintro rfl; rw [td_none id h h5 h90] at hb; cases hb
  rw [look_killH, if_neg hne, hH id b hb]
  have h2 : look (killH j (tdH el kk nn ds G ps)) id = look (tdH el kk nn ds G ps) id := by rw [td_kill j h h5 h90]
  rw [look_killH, if_neg hne, hb] at h2
  exact h2
theorem lk_cons {j : Nat} {x : ABlk} {H H1 : Heap} (hj : look H j = some x) (hH : ∀ id b, look H1 id = some b → look H id = some b) : ∀ id b, look ((j, x) :: H1) id = some b → look H id = some b := fun id b hb => by
  by_cases h : j = id
  · subst h; rw [look_cons_same] at hb; cases hb; exact hj
  · rw [look_cons_ne _ _ h] at hb; exact hH id b hb
theorem td_split {H : Heap} (h1 : look H 1000 = some (.var [.row 950])) (h2 : look H 950 = some (.row el kk nn ds)) (h3 : look H 5 = some (pfxB ps)) (h4 : look H 90 = some (gB (gE 100 G))) (h5 : ∀ i g, G[i]? = some g → look H (100 + i) = some (rteB g.2)) : ∀ id b, look (tdH el kk nn ds G ps) id = some b → look H id = some b :=
  lk_cons h1 (lk_cons h2 (lk_cons h3 (lk_cons h4 fun id b hb => by
    obtain ⟨i, g, g1, g2, g3⟩ := gR_in _ _ _ _ hb
    rw [g2, g3]; exact h5 i g g1)))
theorem td_row {i : Nat} {g : Pfx × List Rte} (h : G[i]? = some g) : look (tdH el kk nn ds G ps) (100 + i) = some (rteB g.2) ∨ 800 ≤ i := by
  by_cases hi : 800 ≤ i
  · exact .inr hi
  · unfold tdH
    rw [look_cons_ne _ _ (by omega), look_cons_ne _ _ (by omega), look_cons_ne _ _ (by omega), look_cons_ne _ _ (by omega)]
    exact .inl (gR_at _ _ _ _ h)
end
end Go.Proofs.YtenolkolkpfjgaaGreat.Ab

namespace Go.Proofs.YtenolkolkpfjgaaGreat.Ab
set_option linter.unusedVariables false
set_option maxRecDepth 100000
open Go.RowKit Go.Lib
section
variable {el kk nn : Nat} {ds : List Dat} {ps : List Pfx} {nt : Nat}
def tfH (el kk nn : Nat) (ds : List Dat) (ps : List Pfx) (D : Grp) (b : Nat) (G : Grp) : Heap := (1000, .var [.row 950]) :: (950, .row el kk nn ds) :: (5, pfxB ps) :: (90, gB (gX D ++ gE b G)) :: gR b G
theorem gvA_fr (id : Nat) (L : List Rte) (v : GV) : frV id (.sl (L.flatMap rteD) L.length) (gvA v) = gvA (if v = .own id then .fix L else v) := by
  cases v with
  | no => rw [if_neg (by simp)]; rfl
  | nil => rw [if_neg (by simp)]; rfl
  | fix l => rw [if_neg (by simp)]; rfl
  | own j =>
    by_cases h : j = id
    · subst h
      rw [if_pos rfl]
      show cond (Nat.beq j j) _ _ = _
      rw [beq_yes]; rfl
    · rw [if_neg (by simpa using h)]
      show cond (Nat.beq j id) _ _ = _
      rw [beq_no h]; rfl
theorem gB_fr (id : Nat) (L : List Rte) (l : List (Pfx × GV)) : frB id (.sl (L.flatMap rteD) L.length) (gB l) = gB (l.map fun p => (p.1, if p.2 = .own id then .fix L else p.2)) := by
  show ABlk.map ((ents pfxA gvA l).map fun p => (frV id _ p.1, frV id _ p.2)) = _
  unfold gB ents
  rw [List.map_map, List.map_map]
  refine congrArg ABlk.map (List.map_congr_left fun p _ => ?_)
  show (frV id _ (pfxA p.1), frV id _ (gvA p.2)) = _
  rw [gvA_fr]
  rfl
theorem fix_step (D : Grp) (b : Nat) (g : Pfx × List Rte) (t : Grp) : (gX D ++ gE b (g :: t)).map (fun p => (p.1, if p.2 = .own b then GV.fix g.2 else p.2)) = gX (D ++ [g]) ++ gE (b + 1) t := by
  rw [List.map_append, gE, List.map_cons, if_pos rfl]
  have h1 : (gX D).map (fun p => (p.1, if p.2 = .own b then GV.fix g.2 else p.2)) = gX D := by
    unfold gX
    rw [List.map_map]
    refine List.map_congr_left fun p _ => ?_
    show (p.1, if GV.fix p.2 = .own b then _ else _) = _
    rw [if_neg (by simp)]
  have h2 : (gE (b + 1) t).map (fun p => (p.1, if p.2 = .own b then GV.fix g.2 else p.2)) = gE (b + 1) t := by
    conv => rhs; rw [← List.map_id (gE (b + 1) t)]
    refine List.map_congr_left fun p hp => ?_
    obtain ⟨q, v⟩ := p
    obtain ⟨j, g1, g2, g3⟩ := gE_own _ _ _ _ hp
    dsimp only
    rw [g3, if_neg (by simp; omega)]; rfl
  rw [h1, h2]
  unfold gX
  rw [List.map_append, List.append_assoc]
  rfl
theorem Wk_look2 {e e1 : Env} {h h1 : Heap} (he : ∀ t c, look e1 t = some c → look e t = some c) (hh : ∀ id b, look h1 id = some b → look h id = some b) : AWk nt e h e1 h1 := fun Pm F w0 pin ι a w R =>
  ⟨only h1 ι, R.heap.only hh, fun t c ht => let ⟨u, hu, hv⟩ := R.env t c (he t c ht); ⟨u, hu, hv.only h1⟩, R.defers.ext (only_ext w F h1 ι), R.size⟩
theorem td_fix {e : Env} (he : ∀ j x, 100 ≤ j → j < 1000 → ∀ t c, look e t = some c → frV j x c = c) : ∀ (G D : Grp) (b : Nat), 100 ≤ b → b + G.length ≤ 800 → AWk nt e (tfH el kk nn ds ps D b G) e (tfH el kk nn ds ps (D ++ G) 0 [])
  | [], D, b, _, _ => by rw [List.append_nil]; exact AWk.refl
  | g :: t, D, b, hb, hl => by
    rw [List.length_cons] at hl
    have hrow : look (tfH el kk nn ds ps D b (g :: t)) b = some (.row 41 9 g.2.length (g.2.flatMap rteD)) := by
      unfold tfH
      rw [look_cons_ne _ _ (by omega), look_cons_ne _ _ (by omega), look_cons_ne _ _ (by omega), look_cons_ne _ _ (by omega)]
      exact look_cons_same _ _ _
    have ih := td_fix he t (D ++ [g]) (b + 1) (by omega) (by omega)
    rw [List.append_assoc, List.singleton_append] at ih
    refine AWk.trans (Wk_freeze hrow) (AWk.trans (Wk_look2 (fun s c hs => ?_) fun id x hx => ?_) ih)
    · rw [look_frE, hs]
      exact congrArg some (he b _ hb (by omega) s c hs)
    · rw [look_frH]
      have hne : id ≠ b := by
        rintro rfl
        unfold tfH at hx
        rw [look_cons_ne _ _ (by omega), look_cons_ne _ _ (by omega), look_cons_ne _ _ (by omega), look_cons_ne _ _ (by omega)] at hx
        obtain ⟨i, g2, _, h2, _⟩ := gR_in _ _ _ _ hx
        omega
      rw [if_neg hne]
      revert hx
      unfold tfH
      by_cases h1 : 1000 = id
      · subst h1
        rw [look_cons_same, look_cons_same]
        rintro h; cases h
        show some (ABlk.var [cond (Nat.beq 950 b) _ _]) = _
        rw [beq_no (by omega)]; rfl
      rw [look_cons_ne _ _ h1, look_cons_ne _ _ h1]
      by_cases h2 : 950 = id
      · subst h2
        rw [look_cons_same, look_cons_same]
        rintro h; cases h; rfl
      rw [look_cons_ne _ _ h2, look_cons_ne _ _ h2]
      by_cases h3 : 5 = id
      · subst h3
        rw [look_cons_same, look_cons_same]
        rintro h; cases h; rfl
      rw [look_cons_ne _ _ h3, look_cons_ne _ _ h3]
      by_cases h4 : 90 = id
      · subst h4
        rw [look_cons_same, look_cons_same]
        rintro h; cases h
        show some (frB b _ (gB (gX D ++ gE b (g :: t)))) = _
        rw [gB_fr, fix_step]
      rw [look_cons_ne _ _ h4, look_cons_ne _ _ h4, gR, look_cons_ne _ _ (fun h => hne h.symm)]
      intro hx
      rw [hx]
      obtain ⟨i, g2, _, _, h5⟩ := gR_in _ _ _ _ hx
      rw [h5]; rfl
end
end Go.Proofs.YtenolkolkpfjgaaGreat.Ab

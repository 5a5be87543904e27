/-
  Texts of a proof, one behind the other (part 12).
-/
import Derived.Test.YtjmelcdgbnjefaaRc1
import Derived.Test.YtjmelcdgbnjefaaRc5
import Derived.Test.YtjmelcdgbnjefaaRc8
import Derived.Test.YtjmelcdgbnjefaaRc10
set_option linter.unusedVariables false
set_option linter.unusedSimpArgs false
namespace Go.Proofs.Ytjmelcdgbnjefaa
set_option linter.unusedVariables false
section
variable {α : Type} [DecidableEq α]
theorem dedA_snoc (y x : α) : ∀ m : List α, dedA (m ++ [y, x]) = if y = x then dedA (m ++ [y]) else dedA (m ++ [y]) ++ [x] := by
  intro m
  induction m with
  | nil => by_cases h : y = x <;> simp [dedA, h]
  | cons a m ih =>
    obtain ⟨b, r, h1⟩ : ∃ b r, m ++ [y] = b :: r := by cases m <;> simp
    have h2 : m ++ [y, x] = b :: (r ++ [x]) := by rw [show m ++ [y, x] = (m ++ [y]) ++ [x] by simp, h1]; rfl
    rw [List.cons_append, List.cons_append, h2, h1]
    rw [h2, h1] at ih
    simp only [dedA]
    rw [ih]
    by_cases hab : a = b <;> by_cases hyx : y = x <;> simp [hab, hyx]
theorem ded_take (l : List α) (k : Nat) (h1 : 1 ≤ k) (h : k < l.length) : dedA (l.take (k + 1)) = if l[k - 1] = l[k] then dedA (l.take k) else dedA (l.take k) ++ [l[k]] := by
  obtain ⟨j, rfl⟩ : ∃ j, k = j + 1 := ⟨k - 1, by omega⟩
  have e1 : l.take (j + 1 + 1) = l.take j ++ [l[j], l[j + 1]] := by
    rw [List.take_succ_eq_append_getElem h, List.take_succ_eq_append_getElem (show j < l.length by omega), List.append_assoc]
    rfl
  have e2 : l.take (j + 1) = l.take j ++ [l[j]] := List.take_succ_eq_append_getElem (show j < l.length by omega)
  rw [e1, dedA_snoc, e2]
  rfl
end
section
variable {α β : Type} {enc : α → List β} {sz : Nat}
theorem flat_take (hsz : ∀ x, (enc x).length = sz) : ∀ (l : List α) (k : Nat), (l.flatMap enc).take (k * sz) = (l.take k).flatMap enc
  | [], k => by simp
  | x :: l, 0 => by simp
  | x :: l, k + 1 => by
    rw [List.flatMap_cons, List.take_succ_cons, List.flatMap_cons, ← flat_take hsz l k, List.take_append, hsz]
    rw [List.take_of_length_le (by rw [hsz, Nat.add_mul]; omega)]
    congr 2
    rw [Nat.add_mul]; omega
theorem flat_drop (hsz : ∀ x, (enc x).length = sz) : ∀ (l : List α) (k : Nat), (l.flatMap enc).drop (k * sz) = (l.drop k).flatMap enc
  | [], k => by simp
  | x :: l, 0 => by simp
  | x :: l, k + 1 => by
    rw [List.flatMap_cons, List.drop_succ_cons, ← flat_drop hsz l k, List.drop_append, hsz]
    rw [List.drop_of_length_le (by rw [hsz, Nat.add_mul]; omega), List.nil_append]
    congr 1
    rw [Nat.add_mul]; omega
theorem flat_set (hsz : ∀ x, (enc x).length = sz) (l : List α) (k : Nat) (x : α) (hk : k < l.length) : Ab.setW (l.flatMap enc) (k * sz) (enc x) = (l.set k x).flatMap enc := by
  unfold Ab.setW
  rw [flat_take hsz, hsz]
  rw [show k * sz + sz = (k + 1) * sz by rw [Nat.add_mul]; omega, flat_drop hsz]
  rw [List.set_eq_take_append_cons_drop, if_pos hk]
  simp
end
instance : Inhabited Rte := ⟨⟨⟨0, 0⟩, 0, 0, 0, 0, [], 0, false⟩⟩
def rteV (r : Rte) : List Value := [.int .u32 r.p.a, .int .i64 r.p.b, .int .u8 r.f, .int .i64 r.d, .int .i64 r.m, .int .i64 r.t, .string ⟨⟨r.i⟩⟩, .int .u32 r.h, .bool r.x]
theorem ordR_eq' (x y : Rte) (h : ordR x y = 0) : x = y := (ordR_zero x y).1 h
section
open Go.RowKit Go.Sort Go.Lib
set_option maxRecDepth 100000
theorem insNilR (c : Value) (w : World) : Calls Try.prog 76 #[.slice none 0 0, .int .i64 0, .int .i64 0, c] w (RetS w (.tuple #[])) := by
  go_enter Try.func76, Try.ntmps76
  go_wp2_with fail
  refine wp_loop_rounds 1 ?_
  rw [rounds_succ]; go_wp2_with fail
  go_end0
  exact ⟨rfl, rfl⟩
theorem pdqNilR (c : Value) (w : World) (n : Int) : Calls Try.prog 68 #[.slice none 0 0, .int .i64 0, .int .i64 0, .int .i64 n, c] w (RetS w (.tuple #[])) := by
  go_enter Try.func68, Try.ntmps68
  go_wp2_with fail
  refine wp_loop_rounds 1 ?_
  rw [rounds_succ]; go_wp2_with fail
  refine (insNilR c _).mono ?_
  rintro e w' ⟨rfl, rfl⟩
  go_wp2_with fail
  go_end0
  exact ⟨rfl, rfl⟩
theorem sortNilR (c : Value) (w : World) : Calls Try.prog 49 #[.slice none 0 0, c] w (RetS w (.tuple #[])) := by
  have hl := fun W => Any.bits_Len (SlLaysF0.n15.bits (P := _) (ρ := _) { Try.sortRoute with }) (0 : Int) W (by omega) (by omega)
  go_enter Try.func49, Try.ntmps49
  go_wp2_with fail
  refine (hl _).mono ?_
  rintro e w' ⟨rfl, rfl⟩
  go_wp2_with fail
  refine (pdqNilR c _ _).mono ?_
  rintro e w' ⟨rfl, rfl⟩
  go_wp2_with fail
  go_end0
  exact ⟨rfl, rfl⟩
end
namespace Ab
set_option maxRecDepth 100000
open Go.RowKit Go.Lib
set_option linter.unusedSimpArgs false
attribute [local irreducible] AWp AOps AQ AYield AEff ACall AWk AAny AAt AThen AIn APost NoPanic
def rteB (l : List Rte) : ABlk := .row 58 9 l.length (l.flatMap rteD)
theorem rteEq (x y : Rte) : eqCells (rteV x) (rteV y) = some (x == y) := by
  obtain ⟨⟨a, b⟩, f, d, m, t, i, h, q⟩ := x
  obtain ⟨⟨a', b'⟩, f', d', m', t', i', h', q'⟩ := y
  simp only [rteV, eqCells, eqV, if_true, mk_toList, Bool.and_true, Option.some.injEq]
  rw [Bool.eq_iff_iff]
  simp only [Bool.and_eq_true, beq_iff_eq, Rte.mk.injEq, Pfx.mk.injEq, and_assoc]
theorem sortR_A (l : List Rte) (hn : l.length ≤ 2147483648) : ACall Try.prog 49 [.row 1000, .fn 50 []] [(1000, rteB l)] (fun c h => c = .tup [] ∧ h = [(1000, rteB (srt ordR l))]) := by
  have := sortG (α := Rte) Try.sortRoute (f := 49) (el := 58) (k := 9) rfl (by kernel_rfl) (fun W => Try.isAgg58 W) (fun W => Try.sizeOf58 W) (enc := rteV) (fun _ => rfl)
    (fun x v hv => by simp [rteV] at hv; rcases hv with rfl | rfl | rfl | rfl | rfl | rfl | rfl | rfl | rfl <;> rfl) (eA := rteA) (fun _ => rfl) (fun _ => rfl) (eD := rteD) (fun _ => rfl) good_ordR ordR_eq' (g := 50) routesCmp_A (fun w => (sortNilR _ w).mono fun e w' h => ⟨h.1, h.2.symm⟩) l hn
  unfold rteB
  rw [srt_len]
  exact this
theorem clone_A (l : List Rte) (hl : l.length ≤ 2147483648) : ACall Try.prog 48 [rtesA l] [] (fun c h => c = .row 5 ∧ h = [(5, rteB l)]) := by
  refine ACall_of tabOk Try.func48 rfl Try.ntmps48 (congrArg Array.toList Try.results48) (by kernel_rfl) rfl ?_
  have hfl : (l.flatMap rteD).length = l.length * 9 := flat_len rteD_len l
  repeat (first | refine A_seq ?_ | refine A_block ?_ | refine R_list ?_ | refine R_quiet rfl mixed (by kernel_rfl) ?_ | ((first | apply O_y rfl rfl rfl | apply Q_y rfl rfl rfl); (first | exact q_1 | exact q_2 | exact q_3 | exact q_4 | exact q_5 | exact q_6 | exact q_7 | exact q_8 | exact q_9 | exact q_10 | exact q_11 | exact q_12 | exact q_13 | exact q_14 | exact q_15 | exact q_16 | exact q_17 | exact q_18 | exact q_19 | exact q_20 | exact q_21 | exact q_22 | exact q_23 | exact q_24 | fail)) | refine O_nil ?_ | refine Q_nil ?_ | refine q_j ?_ | refine q_k ?_ | refine q_d ?_ | refine q_a ?_ | refine q_b ?_ | refine q_c ?_ | refine A_ct rfl ?_ | refine A_cf rfl ?_ | refine A_skip ?_ | refine A_exit ?_ | refine A_ret ?_ | refine q_l ?_ | refine q_m ?_ | refine q_n ?_ | refine q_h ?_ | refine q_o ?_ | refine q_e ?_ | refine q_f ?_ | refine q_g ?_ | (refine O_nilEq tabOk rfl rfl rfl rfl rfl rfl ?_; intro b hb))
  cases b with
  | true =>
    have : l = [] := List.eq_nil_of_length_eq_zero (hb rfl).2
    subst this
    repeat (first | refine A_seq ?_ | refine A_block ?_ | refine R_list ?_ | refine R_quiet rfl mixed (by kernel_rfl) ?_ | ((first | apply O_y rfl rfl rfl | apply Q_y rfl rfl rfl); (first | exact q_1 | exact q_2 | exact q_3 | exact q_4 | exact q_5 | exact q_6 | exact q_7 | exact q_8 | exact q_9 | exact q_10 | exact q_11 | exact q_12 | exact q_13 | exact q_14 | exact q_15 | exact q_16 | exact q_17 | exact q_18 | exact q_19 | exact q_20 | exact q_21 | exact q_22 | exact q_23 | exact q_24 | fail)) | refine O_nil ?_ | refine Q_nil ?_ | refine q_j ?_ | refine q_k ?_ | refine q_d ?_ | refine q_a ?_ | refine q_b ?_ | refine q_c ?_ | refine A_ct rfl ?_ | refine A_cf rfl ?_ | refine A_skip ?_ | refine A_exit ?_ | refine A_ret ?_ | refine q_l ?_ | refine q_m ?_ | refine q_n ?_ | refine q_h ?_ | refine q_o ?_ | refine q_e ?_ | refine q_f ?_ | refine q_g ?_ | fail)
    exact X_retW (Wk_nil 58 9 (t := 2) (id := 5) rfl rfl) rfl (h2 := [(5, rteB [])]) ⟨rfl, trivial⟩ ⟨rfl, rfl⟩
  | false =>
    repeat (first | refine A_seq ?_ | refine A_block ?_ | refine R_list ?_ | refine R_quiet rfl mixed (by kernel_rfl) ?_ | ((first | apply O_y rfl rfl rfl | apply Q_y rfl rfl rfl); (first | exact q_1 | exact q_2 | exact q_3 | exact q_4 | exact q_5 | exact q_6 | exact q_7 | exact q_8 | exact q_9 | exact q_10 | exact q_11 | exact q_12 | exact q_13 | exact q_14 | exact q_15 | exact q_16 | exact q_17 | exact q_18 | exact q_19 | exact q_20 | exact q_21 | exact q_22 | exact q_23 | exact q_24 | fail)) | refine O_nil ?_ | refine Q_nil ?_ | refine q_j ?_ | refine q_k ?_ | refine q_d ?_ | refine q_a ?_ | refine q_b ?_ | refine q_c ?_ | refine A_ct rfl ?_ | refine A_cf rfl ?_ | refine A_skip ?_ | refine A_exit ?_ | refine A_ret ?_ | refine q_l ?_ | refine q_m ?_ | refine q_n ?_ | refine q_h ?_ | refine q_o ?_ | refine q_e ?_ | refine q_f ?_ | refine q_g ?_ | (first | refine O_slice0 tabOk rfl rfl rfl rfl rfl rfl rfl ?_ | (first | refine O_appR tabOk rfl rfl rfl rfl rfl rfl rfl rfl rfl rfl rfl (by first | exact Src.row rfl | exact Src.dat _ _ | exact Src.nil) hfl (by omega) ?_ | refine O_appN tabOk rfl rfl rfl rfl rfl rfl rfl rfl rfl rfl (by first | exact Src.row rfl | exact Src.dat _ _ | exact Src.nil) hfl (by omega) ?_)))
    exact X_retW AWk.refl rfl (h2 := [(5, rteB l)]) ⟨by rw [Nat.zero_add]; rfl, trivial⟩ ⟨rfl, rfl⟩
structure Cpt (l m : List Rte) (k q : Nat) : Prop where
  len : m.length = l.length
  q1 : q ≤ l.length
  kq : k < q
  k0 : 0 < k
  front : m.take k = dedA (l.take q)
  back : ∀ i, q ≤ i + 1 → m[i]? = l[i]?
theorem cpt_next {l m : List Rte} {k q : Nat} (C : Cpt l m k q) (h : q < l.length) (he : l[q - 1]'(by omega) = l[q]) : Cpt l m k (q + 1) := by
  have := C.kq
  have := C.k0
  refine ⟨C.len, by omega, by omega, C.k0, ?_, fun i hi => C.back i (by omega)⟩
  rw [ded_take l q (by omega) h, if_pos he, C.front]
theorem cpt_put {l m : List Rte} {k q : Nat} (C : Cpt l m k q) (h : q < l.length) (he : l[q - 1]'(by omega) ≠ l[q]) : Cpt l (m.set k l[q]) (k + 1) (q + 1) := by
  have h1 := C.kq
  have h2 := C.k0
  have h3 := C.len
  refine ⟨by rw [List.length_set, h3], by omega, by omega, by omega, ?_, fun i hi => ?_⟩
  · rw [ded_take l q (by omega) h, if_neg he, ← C.front, List.take_succ_eq_append_getElem (by rw [List.length_set]; omega), List.getElem_set_self, List.take_set_of_le (Nat.le_refl _)]
  · rw [List.getElem?_set_ne (by omega)]
    exact C.back i (by omega)
theorem win_at (l : List Rte) (k : Nat) (h : k < l.length) : win (l.flatMap rteD) (k * 9) 9 = rteD l[k] := win_flat0 rteD_len l k 9 h (by decide)
theorem win_part (l : List Rte) (a b : Nat) (h : a + b < l.length) : win (l.flatMap rteD) (a * 9 + b * 9) 9 = rteD l[a + b] := by rw [← Nat.add_mul]; exact win_at l (a + b) h
set_option maxHeartbeats 8000000 in
theorem compact_A (l : List Rte) (hn : l.length ≤ 2147483648) : ACall Try.prog 51 [.row 1000] [(1000, rteB l)] (fun c h => c = .row 100 ∧ h = [(100, rteB (dedA l))]) := by
  refine ACall_of tabOk Try.func51 rfl Try.ntmps51 (congrArg Array.toList Try.results51) (by kernel_rfl) rfl ?_
  refine A_weaken (Wk_rename (id := 100) (t := 0) rfl rfl) ?_
  by_cases h2 : l.length < 2
  · have hd : dedA l = l := by match l, h2 with | [], _ => rfl | [x], _ => rfl
    rw [hd]
    repeat (first | refine A_seq ?_ | refine A_block ?_ | refine R_list ?_ | refine R_quiet rfl mixed (by kernel_rfl) ?_ | ((first | apply O_y rfl rfl rfl | apply Q_y rfl rfl rfl); (first | exact q_1 | exact q_2 | exact q_3 | exact q_4 | exact q_5 | exact q_6 | exact q_7 | exact q_8 | exact q_9 | exact q_10 | exact q_11 | exact q_12 | exact q_13 | exact q_14 | exact q_15 | exact q_16 | exact q_17 | exact q_18 | exact q_19 | exact q_20 | exact q_21 | exact q_22 | exact q_23 | exact q_24 | fail)) | refine O_nil ?_ | refine Q_nil ?_ | refine q_j ?_ | refine q_k ?_ | refine q_d ?_ | refine q_a ?_ | refine q_b ?_ | refine q_c ?_ | refine A_ct rfl ?_ | refine A_cf rfl ?_ | refine A_skip ?_ | refine A_exit ?_ | refine A_ret ?_ | refine q_l ?_ | refine q_m ?_ | refine q_n ?_ | refine q_h ?_ | refine q_o ?_ | refine q_e ?_ | refine q_f ?_ | refine q_g ?_ | fail)
    exact X_retW AWk.refl rfl (h2 := [(100, rteB l)]) ⟨rfl, trivial⟩ ⟨rfl, rfl⟩
  ·
    repeat (first | refine A_seq ?_ | refine A_block ?_ | refine R_list ?_ | refine R_quiet rfl mixed (by kernel_rfl) ?_ | ((first | apply O_y rfl rfl rfl | apply Q_y rfl rfl rfl); (first | exact q_1 | exact q_2 | exact q_3 | exact q_4 | exact q_5 | exact q_6 | exact q_7 | exact q_8 | exact q_9 | exact q_10 | exact q_11 | exact q_12 | exact q_13 | exact q_14 | exact q_15 | exact q_16 | exact q_17 | exact q_18 | exact q_19 | exact q_20 | exact q_21 | exact q_22 | exact q_23 | exact q_24 | fail)) | refine O_nil ?_ | refine Q_nil ?_ | refine q_j ?_ | refine q_k ?_ | refine q_d ?_ | refine q_a ?_ | refine q_b ?_ | refine q_c ?_ | refine A_ct rfl ?_ | refine A_cf rfl ?_ | refine A_skip ?_ | refine A_exit ?_ | refine A_ret ?_ | refine q_l ?_ | refine q_m ?_ | refine q_n ?_ | refine q_h ?_ | refine q_o ?_ | refine q_e ?_ | refine q_f ?_ | refine q_g ?_ | fail)
    refine A_loop (fun k : Nat => [(0, .row 100), (3, intA (k : Int))]) (fun _ => [(100, rteB l)]) (fun k => 1 ≤ k ∧ k ≤ l.length ∧ dedA (l.take k) = l.take k) (fun k => l.length - k) 1 ⟨by omega, by omega, ?_⟩ (Wk_sel ⟨rfl, rfl, trivial⟩ ⟨rfl, trivial⟩) ?_
    · match l with
      | [] => rfl
      | x :: r => rfl
    rintro k ⟨hk1, hk2, hd⟩
    dsimp only
    by_cases hlt : k < l.length
    · have hlt1 : k - 1 < l.length := by omega
      have hk' : ((k : Int) - 1) = ((k - 1 : Nat) : Int) := by omega
      have heq := rteEq l[k] l[k - 1]
      have hw0 := win_at l k hlt
      have hw1 := win_at l (k - 1) hlt1
      by_cases he : l[k] = l[k - 1]
      · rw [show (l[k] == l[k - 1]) = true by simpa using he] at heq
        repeat (first | refine A_seq ?_ | refine A_block ?_ | refine R_list ?_ | refine R_quiet rfl mixed (by kernel_rfl) ?_ | ((first | apply O_y rfl rfl rfl | apply Q_y rfl rfl rfl); (first | exact q_1 | exact q_2 | exact q_3 | exact q_4 | exact q_5 | exact q_6 | exact q_7 | exact q_8 | exact q_9 | exact q_10 | exact q_11 | exact q_12 | exact q_13 | exact q_14 | exact q_15 | exact q_16 | exact q_17 | exact q_18 | exact q_19 | exact q_20 | exact q_21 | exact q_22 | exact q_23 | exact q_24 | (first | exact R_indexr tabOk rfl rfl rfl rfl rfl rfl hk' hlt1 | exact R_loade tabOk rfl rfl rfl rfl rfl rfl hw0 rfl rfl | exact R_loade tabOk rfl rfl rfl rfl rfl rfl hw1 rfl rfl | exact Y_eq tabOk noStand rfl rfl rfl rfl rfl rfl rfl rfl rfl (by kernel_rfl) heq rfl | exact R_rowFrom tabOk rfl rfl rfl rfl rfl rfl rfl (Nat.le_of_lt hlt)))) | refine O_nil ?_ | refine Q_nil ?_ | refine q_j ?_ | refine q_k ?_ | refine q_d ?_ | refine q_a ?_ | refine q_b ?_ | refine q_c ?_ | refine A_ct rfl ?_ | refine A_cf rfl ?_ | refine A_skip ?_ | refine A_exit ?_ | refine A_ret ?_ | refine q_l ?_ | refine q_m ?_ | refine q_n ?_ | refine q_h ?_ | refine q_o ?_ | refine q_e ?_ | refine q_f ?_ | refine q_g ?_ | fail)
        refine A_loop (fun x : Nat × Nat × List Rte => [(0, .row 100), (3, intA (x.1 : Int)), (4, .srow 100 (k * 9) (l.length - k)), (5, intA (x.2.1 : Int))]) (fun x => [(100, rteB x.2.2)]) (fun x => 1 ≤ x.2.1 ∧ Cpt l x.2.2 x.1 (k + x.2.1)) (fun x => l.length - x.2.1) (k, 1, l) ⟨Nat.le_refl _, rfl, hlt, Nat.lt_succ_self k, hk1, ?_, fun _ _ => rfl⟩ (Wk_sel ⟨rfl, rfl, rfl, rfl, trivial⟩ ⟨rfl, trivial⟩) ?_
        · rw [ded_take l k hk1 hlt, if_pos he.symm, hd]
        rintro ⟨K, j, m⟩ ⟨hj, C⟩
        dsimp only at hj C ⊢
        have c1 := C.len
        have c2 := C.q1
        have c3 := C.kq
        have c4 := C.k0
        by_cases hq : k + j < l.length
        · have hjk : j < l.length - k := by omega
          have hjk1 : j - 1 < l.length - k := by omega
          have hj' : ((j : Int) - 1) = ((j - 1 : Nat) : Int) := by omega
          have e1 : m[k + j]'(by omega) = l[k + j] := by
            have := C.back (k + j) (by omega)
            rw [List.getElem?_eq_getElem (by omega), List.getElem?_eq_getElem hq] at this
            exact Option.some.inj this
          have e2 : m[k + (j - 1)]'(by omega) = l[k + j - 1] := by
            have := C.back (k + (j - 1)) (by omega)
            rw [List.getElem?_eq_getElem (by omega), List.getElem?_eq_getElem (show k + (j - 1) < l.length by omega)] at this
            rw [Option.some.inj this]
            congr 1
            omega
          have hw2 := win_part m k j (by omega)
          have hw3 := win_part m k (j - 1) (by omega)
          rw [e1] at hw2
          rw [e2] at hw3
          have heq2 := rteEq l[k + j] l[k + j - 1]
          by_cases hs : l[k + j - 1] = l[k + j]
          · rw [show (l[k + j] == l[k + j - 1]) = true by simpa using hs.symm] at heq2
            repeat (first | refine A_seq ?_ | refine A_block ?_ | refine R_list ?_ | refine R_quiet rfl mixed (by kernel_rfl) ?_ | ((first | apply O_y rfl rfl rfl | apply Q_y rfl rfl rfl); (first | exact q_1 | exact q_2 | exact q_3 | exact q_4 | exact q_5 | exact q_6 | exact q_7 | exact q_8 | exact q_9 | exact q_10 | exact q_11 | exact q_12 | exact q_13 | exact q_14 | exact q_15 | exact q_16 | exact q_17 | exact q_18 | exact q_19 | exact q_20 | exact q_21 | exact q_22 | exact q_23 | exact q_24 | (first | exact R_lens tabOk rfl rfl rfl rfl | exact R_indexs tabOk rfl rfl rfl rfl rfl rfl rfl hjk | exact R_indexs tabOk rfl rfl rfl rfl rfl rfl rfl hjk1 | exact R_indexs tabOk rfl rfl rfl rfl rfl rfl hj' hjk1 | exact R_loade tabOk rfl rfl rfl rfl rfl rfl hw2 rfl rfl | exact R_loade tabOk rfl rfl rfl rfl rfl rfl hw3 rfl rfl | exact Y_eq tabOk noStand rfl rfl rfl rfl rfl rfl rfl rfl rfl (by kernel_rfl) heq2 rfl))) | refine O_nil ?_ | refine Q_nil ?_ | refine q_j ?_ | refine q_k ?_ | refine q_d ?_ | refine q_a ?_ | refine q_b ?_ | refine q_c ?_ | refine A_ct rfl ?_ | refine A_cf rfl ?_ | refine A_skip ?_ | refine A_exit ?_ | refine A_ret ?_ | refine q_l ?_ | refine q_m ?_ | refine q_n ?_ | refine q_h ?_ | refine q_o ?_ | refine q_e ?_ | refine q_f ?_ | refine q_g ?_ | fail)
            exact ⟨(K, j + 1, m), ⟨by dsimp only; omega, by dsimp only; exact cpt_next C hq hs⟩, by dsimp only; omega, Wk_sel ⟨rfl, rfl, rfl, rfl, trivial⟩ ⟨rfl, trivial⟩⟩
          · rw [show (l[k + j] == l[k + j - 1]) = false by simpa using fun h => hs h.symm] at heq2
            have hKm : K < m.length := by omega
            have hfl : (m.flatMap rteD).length = m.length * 9 := flat_len rteD_len m
            repeat (first | refine A_seq ?_ | refine A_block ?_ | refine R_list ?_ | refine R_quiet rfl mixed (by kernel_rfl) ?_ | ((first | apply O_y rfl rfl rfl | apply Q_y rfl rfl rfl); (first | exact q_1 | exact q_2 | exact q_3 | exact q_4 | exact q_5 | exact q_6 | exact q_7 | exact q_8 | exact q_9 | exact q_10 | exact q_11 | exact q_12 | exact q_13 | exact q_14 | exact q_15 | exact q_16 | exact q_17 | exact q_18 | exact q_19 | exact q_20 | exact q_21 | exact q_22 | exact q_23 | exact q_24 | (first | exact R_lens tabOk rfl rfl rfl rfl | exact R_indexs tabOk rfl rfl rfl rfl rfl rfl rfl hjk | exact R_indexs tabOk rfl rfl rfl rfl rfl rfl rfl hjk1 | exact R_indexs tabOk rfl rfl rfl rfl rfl rfl hj' hjk1 | exact R_loade tabOk rfl rfl rfl rfl rfl rfl hw2 rfl rfl | exact R_loade tabOk rfl rfl rfl rfl rfl rfl hw3 rfl rfl | exact Y_eq tabOk noStand rfl rfl rfl rfl rfl rfl rfl rfl rfl (by kernel_rfl) heq2 rfl | exact R_indexr tabOk rfl rfl rfl rfl rfl rfl rfl hKm))) | refine O_nil ?_ | refine Q_nil ?_ | refine q_j ?_ | refine q_k ?_ | refine q_d ?_ | refine q_a ?_ | refine q_b ?_ | refine q_c ?_ | refine A_ct rfl ?_ | refine A_cf rfl ?_ | refine A_skip ?_ | refine A_exit ?_ | refine A_ret ?_ | refine q_l ?_ | refine q_m ?_ | refine q_n ?_ | refine q_h ?_ | refine q_o ?_ | refine q_e ?_ | refine q_f ?_ | refine q_g ?_ | (refine O_storee tabOk rfl rfl rfl rfl rfl rfl rfl rfl rfl rfl (by rw [hfl]; omega) (by omega) ?_))
            exact ⟨(K + 1, j + 1, m.set K l[k + j]), ⟨by dsimp only; omega, by dsimp only; exact cpt_put C hq hs⟩, by dsimp only; omega, Wk_sel ⟨rfl, rfl, rfl, rfl, trivial⟩ ⟨row_eq (by dsimp only; rw [List.length_set]) (flat_set rteD_len m K l[k + j] hKm) rfl, trivial⟩⟩
        · have hK : K ≤ m.length := by omega
          have hq2 : k + j = l.length := by omega
          have hfl : (m.flatMap rteD).length = m.length * 9 := flat_len rteD_len m
          have hjl : ¬ ((j : Int) < ((l.length - k : Nat) : Int)) := by omega
          repeat (first | refine A_seq ?_ | refine A_block ?_ | refine R_list ?_ | refine R_quiet rfl mixed (by kernel_rfl) ?_ | ((first | apply O_y rfl rfl rfl | apply Q_y rfl rfl rfl); (first | exact q_1 | exact q_2 | exact q_3 | exact q_4 | exact q_5 | exact q_6 | exact q_7 | exact q_8 | exact q_9 | exact q_10 | exact q_11 | exact q_12 | exact q_13 | exact q_14 | exact q_15 | exact q_16 | exact q_17 | exact q_18 | exact q_19 | exact q_20 | exact q_21 | exact q_22 | exact q_23 | exact q_24 | (first | exact R_lens tabOk rfl rfl rfl rfl | exact R_rowFrom tabOk rfl rfl rfl rfl rfl rfl rfl hK))) | refine O_nil ?_ | refine Q_nil ?_ | refine q_j ?_ | refine q_k ?_ | refine q_d ?_ | refine q_a ?_ | refine q_b ?_ | refine q_c ?_ | refine A_ct rfl ?_ | refine A_cf rfl ?_ | refine A_skip ?_ | refine A_exit ?_ | refine A_ret ?_ | refine q_l ?_ | refine q_m ?_ | refine q_n ?_ | refine q_h ?_ | refine q_o ?_ | refine q_e ?_ | refine q_f ?_ | refine q_g ?_ | fail)
          refine O_clear tabOk rfl rfl rfl rfl rfl rfl rfl rfl (by rw [Nat.sub_mul]; have := Nat.mul_le_mul_right 9 hK; omega) fun zs hzs => ?_
          repeat (first | refine A_seq ?_ | refine A_block ?_ | refine R_list ?_ | refine R_quiet rfl mixed (by kernel_rfl) ?_ | ((first | apply O_y rfl rfl rfl | apply Q_y rfl rfl rfl); (first | exact q_1 | exact q_2 | exact q_3 | exact q_4 | exact q_5 | exact q_6 | exact q_7 | exact q_8 | exact q_9 | exact q_10 | exact q_11 | exact q_12 | exact q_13 | exact q_14 | exact q_15 | exact q_16 | exact q_17 | exact q_18 | exact q_19 | exact q_20 | exact q_21 | exact q_22 | exact q_23 | exact q_24 | fail)) | refine O_nil ?_ | refine Q_nil ?_ | refine q_j ?_ | refine q_k ?_ | refine q_d ?_ | refine q_a ?_ | refine q_b ?_ | refine q_c ?_ | refine A_ct rfl ?_ | refine A_cf rfl ?_ | refine A_skip ?_ | refine A_exit ?_ | refine A_ret ?_ | refine q_l ?_ | refine q_m ?_ | refine q_n ?_ | refine q_h ?_ | refine q_o ?_ | refine q_e ?_ | refine q_f ?_ | refine q_g ?_ | (refine O_rowTo tabOk rfl rfl rfl rfl rfl rfl rfl rfl rfl rfl rfl hK ?_))
          have hfr : (setW (m.flatMap rteD) (K * 9) zs).take (K * 9) = (dedA l).flatMap rteD := by
            unfold setW
            rw [List.take_append_of_le_length (by rw [List.length_append, List.length_take, hfl]; have := Nat.mul_le_mul_right 9 hK; omega), List.take_append_of_le_length (by rw [List.length_take, hfl]; have := Nat.mul_le_mul_right 9 hK; omega), List.take_take, Nat.min_self, flat_take rteD_len, C.front, hq2, List.take_length]
          have hlK : K = (dedA l).length := by
            have := congrArg List.length C.front
            rw [hq2, List.take_length, List.length_take] at this
            omega
          exact X_retW AWk.refl rfl (h2 := [(100, rteB (dedA l))]) ⟨row_eq hlK hfr rfl, trivial⟩ ⟨rfl, rfl⟩
      · rw [show (l[k] == l[k - 1]) = false by simpa using he] at heq
        repeat (first | refine A_seq ?_ | refine A_block ?_ | refine R_list ?_ | refine R_quiet rfl mixed (by kernel_rfl) ?_ | ((first | apply O_y rfl rfl rfl | apply Q_y rfl rfl rfl); (first | exact q_1 | exact q_2 | exact q_3 | exact q_4 | exact q_5 | exact q_6 | exact q_7 | exact q_8 | exact q_9 | exact q_10 | exact q_11 | exact q_12 | exact q_13 | exact q_14 | exact q_15 | exact q_16 | exact q_17 | exact q_18 | exact q_19 | exact q_20 | exact q_21 | exact q_22 | exact q_23 | exact q_24 | (first | exact R_indexr tabOk rfl rfl rfl rfl rfl rfl hk' hlt1 | exact R_loade tabOk rfl rfl rfl rfl rfl rfl hw0 rfl rfl | exact R_loade tabOk rfl rfl rfl rfl rfl rfl hw1 rfl rfl | exact Y_eq tabOk noStand rfl rfl rfl rfl rfl rfl rfl rfl rfl (by kernel_rfl) heq rfl))) | refine O_nil ?_ | refine Q_nil ?_ | refine q_j ?_ | refine q_k ?_ | refine q_d ?_ | refine q_a ?_ | refine q_b ?_ | refine q_c ?_ | refine A_ct rfl ?_ | refine A_cf rfl ?_ | refine A_skip ?_ | refine A_exit ?_ | refine A_ret ?_ | refine q_l ?_ | refine q_m ?_ | refine q_n ?_ | refine q_h ?_ | refine q_o ?_ | refine q_e ?_ | refine q_f ?_ | refine q_g ?_ | fail)
        exact ⟨k + 1, ⟨by omega, by omega, by rw [ded_take l k hk1 hlt, if_neg fun h => he h.symm, hd, ← List.take_succ_eq_append_getElem hlt]⟩, by omega, Wk_sel ⟨rfl, rfl, trivial⟩ ⟨rfl, trivial⟩⟩
    · have : k = l.length := by omega
      subst this
      rw [List.take_length] at hd
      rw [hd]
      repeat (first | refine A_seq ?_ | refine A_block ?_ | refine R_list ?_ | refine R_quiet rfl mixed (by kernel_rfl) ?_ | ((first | apply O_y rfl rfl rfl | apply Q_y rfl rfl rfl); (first | exact q_1 | exact q_2 | exact q_3 | exact q_4 | exact q_5 | exact q_6 | exact q_7 | exact q_8 | exact q_9 | exact q_10 | exact q_11 | exact q_12 | exact q_13 | exact q_14 | exact q_15 | exact q_16 | exact q_17 | exact q_18 | exact q_19 | exact q_20 | exact q_21 | exact q_22 | exact q_23 | exact q_24 | fail)) | refine O_nil ?_ | refine Q_nil ?_ | refine q_j ?_ | refine q_k ?_ | refine q_d ?_ | refine q_a ?_ | refine q_b ?_ | refine q_c ?_ | refine A_ct rfl ?_ | refine A_cf rfl ?_ | refine A_skip ?_ | refine A_exit ?_ | refine A_ret ?_ | refine q_l ?_ | refine q_m ?_ | refine q_n ?_ | refine q_h ?_ | refine q_o ?_ | refine q_e ?_ | refine q_f ?_ | refine q_g ?_ | fail)
      exact X_retW AWk.refl rfl (h2 := [(100, rteB l)]) ⟨rfl, trivial⟩ ⟨rfl, rfl⟩
end Ab
end Go.Proofs.Ytjmelcdgbnjefaa

/-
  Texts of a proof, one behind the other (part 18).
-/
import Derived.Shelf.SlGeneric
import Derived.Shelf.Small.Bits
import Derived.Shelf.Strconv.Itoa0
import Derived.Shelf.SlSortCmp.Xorshift
import Derived.Test.YtpnhkkejcnicoaaGreatProg
import Derived.Test.YtpnhkkejcnicoaaGreatRo6
import Derived.Test.YtpnhkkejcnicoaaGreatRo12
set_option linter.unusedVariables false
set_option linter.unusedSimpArgs false
namespace Go.Proofs.YtpnhkkejcnicoaaGreat.Ab
set_option linter.unusedVariables false
set_option maxRecDepth 100000
open Go.RowKit Go.Lib Go.Sort
set_option linter.unusedSimpArgs false
attribute [local irreducible] AWp AOps AQ AYield AEff ACall AWk AAny AAt AThen AIn APost NoPanic
section
variable {P : Program} {nt : Nat} {Q : Post} {e : Env} {h : Heap} {ops : Array Oper} {o : Oper} {rest : List Oper}
theorem look_twoU {a b c d p i : Nat} (h : look [(a, b), (c, d)] p = some i) : (p = a ∧ i = b) ∨ (p = c ∧ i = d) := by
  simp only [look] at h
  cases hb : Nat.beq a p
  · rw [hb] at h
    cases hb2 : Nat.beq c p
    · rw [hb2] at h; cases h
    · rw [hb2] at h
      exact .inr ⟨(Nat.eq_of_beq_eq_true hb2).symm, (Option.some.inj h).symm⟩
  · rw [hb] at h
    exact .inl ⟨(Nat.eq_of_beq_eq_true hb).symm, (Option.some.inj h).symm⟩
theorem O_cU2 {f : FuncId} {args : Array Operand} {ats : Array TypeId} {cs cs0 : List AVal} {c : AVal} {d el k n n1 s s1 : Nat} {ds ds1 : List Dat} (i j : Nat) (hij : i ≠ j)
    (H : ACall P f cs [(1000, .row el k n ds), (1001, .var [natA s])] (fun c' h' => c' = c ∧ h' = [(1000, .row el k n1 ds1), (1001, .var [natA s1])]))
    (hok : cs.all (okV [(1000, i), (1001, j)]) = true) (hb : look h i = some (.row el k n ds)) (hb2 : look h j = some (.var [natA s])) (hw : awant ops e o = some true) (hdst : o.dst = some d) (hd : Nat.blt d nt = true) (ho : o.op = .call { callee := .value (.func f), args := args, argTypes := ats }) (hx : aevs e args.toList = some cs0) (hcs : cs.map (renV [(1000, i), (1001, j)]) = cs0)
    (HK : AOps P nt ops Q rest ((d, renV [(1000, i), (1001, j)] c) :: e) ((i, .row el k n1 ds1) :: (j, .var [natA s1]) :: h)) : AOps P nt ops Q (o :: rest) e h := by
  refine O_cP [(1000, i), (1001, j)] (fun p p' q h1 h2 => ?_) (fun p q h1 => ?_) H (fun c hc => List.all_eq_true.1 hok c hc) ⟨⟨i, _, rfl, hb, rfl, trivial⟩, ⟨j, _, rfl, hb2, rfl, fun c hc => by simp at hc; subst hc; rfl⟩, trivial⟩ hw hdst hd ho hx hcs ?_
  · rcases look_twoU h1 with ⟨h3, h4⟩ | ⟨h3, h4⟩ <;> rcases look_twoU h2 with ⟨h5, h6⟩ | ⟨h5, h6⟩ <;> omega
  · rcases look_twoU h1 with ⟨h3, h4⟩ | ⟨h3, h4⟩ <;> subst h3 <;> exact ⟨by omega, rfl, rfl⟩
  · exact HK
end
theorem order2_sw (d : Array Int) (a b s : Nat) : s ≤ (order2 ltInt d a b s).2.2 ∧ (order2 ltInt d a b s).2.2 ≤ s + 1 := by
  unfold order2; split <;> exact ⟨by (try dsimp only); omega, by (try dsimp only); omega⟩
set_option maxHeartbeats 8000000 in
theorem order2U_A (d : Array Int) (a b s : Nat) (ha : a < d.size) (hb : b < d.size) (hs : s ≤ 1000) : ACall Tryz.prog 140 [.row 1000, natA a, natA b, .ptr 1001 0] [(1000, uR d), (1001, .var [natA s])]
    (fun c h => c = .tup [natA (order2 ltInt d a b s).1, natA (order2 ltInt d a b s).2.1] ∧ h = [(1000, uR d), (1001, .var [natA (order2 ltInt d a b s).2.2])]) := by
  have hc := less_A d[b]! d[a]!
  cases hl : ltInt d[b]! d[a]!
  · rw [hl] at hc
    have he : order2 ltInt d a b s = (a, b, s) := by rw [order2, hl]; rfl
    refine ACall_of tabOk Tryz.func140 rfl Tryz.ntmps140 (congrArg Array.toList Tryz.results140) (by kernel_rfl) rfl ?_
    repeat ((fail_if_success (refine stopL ?_)); first | refine q_Z ?_ | refine R_quiet rfl mixed (by kernel_rfl) ?_ | ((first | apply O_y rfl rfl rfl | apply Q_y rfl rfl rfl); (first | exact q_1 | exact q_2 | exact R_addN rfl rfl rfl | exact R_subN rfl rfl rfl | exact q_9 | exact q_10 | exact q_17 | exact R_loade tabOk rfl rfl rfl rfl rfl rfl (u_win (by omega)) rfl rfl | exact q_11 | exact q_12 | exact q_20 | exact q_25 | exact q_26 | exact q_14 | exact R_mulx 2 rfl rfl rfl rfl | exact R_muly 1 rfl rfl rfl rfl | exact R_muly 2 rfl rfl rfl rfl | exact R_muly 3 rfl rfl rfl rfl | exact R_quoy 2 rfl rfl rfl rfl | exact R_quoy 4 rfl rfl rfl rfl | exact R_quoy 8 rfl rfl rfl rfl | exact q_23 | exact q_15 | exact q_7)) | refine A_ct rfl ?_ | refine A_cf rfl ?_ | refine q_W ?_ | refine Q_c rfl rfl rfl rfl rfl hc rfl (fun _ _ _ => val_mk _ _ _ _ _ rfl rfl) ?_)
    exact X_retW AWk.refl rfl (h2 := [(1000, uR d), (1001, .var [natA (order2 ltInt d a b s).2.2])]) ⟨rfl, by rw [he]; rfl, trivial⟩ ⟨by rw [he]; rfl, rfl⟩
  · rw [hl] at hc
    have he : order2 ltInt d a b s = (b, a, s + 1) := by rw [order2, hl]; rfl
    refine ACall_of tabOk Tryz.func140 rfl Tryz.ntmps140 (congrArg Array.toList Tryz.results140) (by kernel_rfl) rfl ?_
    repeat ((fail_if_success (refine stopL ?_)); first | refine q_Z ?_ | refine R_quiet rfl mixed (by kernel_rfl) ?_ | ((first | apply O_y rfl rfl rfl | apply Q_y rfl rfl rfl); (first | exact q_1 | exact q_2 | exact R_addN rfl rfl rfl | exact R_subN rfl rfl rfl | exact q_9 | exact q_10 | exact q_17 | exact R_loade tabOk rfl rfl rfl rfl rfl rfl (u_win (by omega)) rfl rfl | exact q_11 | exact q_12 | exact q_20 | exact q_25 | exact q_26 | exact q_14 | exact R_mulx 2 rfl rfl rfl rfl | exact R_muly 1 rfl rfl rfl rfl | exact R_muly 2 rfl rfl rfl rfl | exact R_muly 3 rfl rfl rfl rfl | exact R_quoy 2 rfl rfl rfl rfl | exact R_quoy 4 rfl rfl rfl rfl | exact R_quoy 8 rfl rfl rfl rfl | exact q_23 | exact q_15 | exact q_7)) | refine A_ct rfl ?_ | refine A_cf rfl ?_ | refine q_W ?_ | first | refine Q_c rfl rfl rfl rfl rfl hc rfl (fun _ _ _ => val_mk _ _ _ _ _ rfl rfl) ?_ | (apply O_y rfl rfl rfl; exact Y_nilCheck rfl rfl rfl) | (refine q_b ?_))
    exact X_retW AWk.refl rfl (h2 := [(1000, uR d), (1001, .var [natA (order2 ltInt d a b s).2.2])]) ⟨rfl, by rw [he]; rfl, trivial⟩ ⟨by rw [he]; rfl, rfl⟩
theorem median_sw (d : Array Int) (a b c s : Nat) : s ≤ (median ltInt d a b c s).2 ∧ (median ltInt d a b c s).2 ≤ s + 3 := by
  unfold median
  have h1 := order2_sw d a b s
  have h2 := order2_sw d (order2 ltInt d a b s).2.1 c (order2 ltInt d a b s).2.2
  have h3 := order2_sw d (order2 ltInt d a b s).1 (order2 ltInt d (order2 ltInt d a b s).2.1 c (order2 ltInt d a b s).2.2).1 (order2 ltInt d (order2 ltInt d a b s).2.1 c (order2 ltInt d a b s).2.2).2.2
  exact ⟨by (try dsimp only); omega, by (try dsimp only); omega⟩
set_option maxHeartbeats 8000000 in
theorem medianU_A (d : Array Int) (a b c s : Nat) (ha : a < d.size) (hb : b < d.size) (hcc : c < d.size) (hs : s ≤ 900) : ACall Tryz.prog 138 [.row 1000, natA a, natA b, natA c, .ptr 1001 0] [(1000, uR d), (1001, .var [natA s])]
    (fun x h => x = natA (median ltInt d a b c s).1 ∧ h = [(1000, uR d), (1001, .var [natA (median ltInt d a b c s).2])]) := by
  have m1 := order2_mem ltInt d a b s
  have w1 := order2_sw d a b s
  obtain ⟨r1, hr1⟩ : ∃ r, order2 ltInt d a b s = r := ⟨_, rfl⟩
  have c1 := order2U_A d a b s ha hb (by omega)
  have hm : median ltInt d a b c s = (let r1 := order2 ltInt d a b s; let r2 := order2 ltInt d r1.2.1 c r1.2.2; let r3 := order2 ltInt d r1.1 r2.1 r2.2.2; (r3.2.1, r3.2.2)) := rfl
  rw [hr1] at m1 w1 c1 hm
  obtain ⟨x1, y1, s1⟩ := r1
  try dsimp only at m1 w1 c1 hm
  have m2 := order2_mem ltInt d y1 c s1
  have w2 := order2_sw d y1 c s1
  have c2 := order2U_A d y1 c s1 (by omega) hcc (by omega)
  obtain ⟨r2, hr2⟩ : ∃ r, order2 ltInt d y1 c s1 = r := ⟨_, rfl⟩
  rw [hr2] at m2 w2 c2 hm
  obtain ⟨x2, y2, s2⟩ := r2
  try dsimp only at m2 w2 c2 hm
  have m3 := order2_mem ltInt d x1 x2 s2
  have w3 := order2_sw d x1 x2 s2
  have c3 := order2U_A d x1 x2 s2 (by omega) (by omega) (by omega)
  obtain ⟨r3, hr3⟩ : ∃ r, order2 ltInt d x1 x2 s2 = r := ⟨_, rfl⟩
  rw [hr3] at m3 w3 c3 hm
  obtain ⟨x3, y3, s3⟩ := r3
  try dsimp only at m3 w3 c3 hm
  rw [hm]
  refine ACall_of tabOk Tryz.func138 rfl Tryz.ntmps138 (congrArg Array.toList Tryz.results138) (by kernel_rfl) rfl ?_
  repeat ((fail_if_success (refine stopL ?_)); first | refine q_Z ?_ | refine R_quiet rfl mixed (by kernel_rfl) ?_ | ((first | apply O_y rfl rfl rfl | apply Q_y rfl rfl rfl); (first | exact q_1 | exact q_2 | exact R_addN rfl rfl rfl | exact R_subN rfl rfl rfl | exact q_9 | exact q_10 | exact q_17 | exact q_19 | exact q_11 | exact q_12 | exact q_20 | exact q_25 | exact q_26 | exact q_14 | exact R_mulx 2 rfl rfl rfl rfl | exact R_muly 1 rfl rfl rfl rfl | exact R_muly 2 rfl rfl rfl rfl | exact R_muly 3 rfl rfl rfl rfl | exact R_quoy 2 rfl rfl rfl rfl | exact R_quoy 4 rfl rfl rfl rfl | exact R_quoy 8 rfl rfl rfl rfl | exact q_23 | exact q_15 | exact q_7)) | refine A_ct rfl ?_ | refine A_cf rfl ?_ | refine q_W ?_)
  refine O_cU2 1000 1001 (by decide) c1 rfl rfl rfl rfl rfl rfl rfl rfl rfl ?_
  repeat ((fail_if_success (refine stopL ?_)); first | refine q_Z ?_ | refine R_quiet rfl mixed (by kernel_rfl) ?_ | ((first | apply O_y rfl rfl rfl | apply Q_y rfl rfl rfl); (first | exact q_1 | exact q_2 | exact R_addN rfl rfl rfl | exact R_subN rfl rfl rfl | exact q_9 | exact q_10 | exact q_17 | exact q_19 | exact q_11 | exact q_12 | exact q_20 | exact q_25 | exact q_26 | exact q_14 | exact R_mulx 2 rfl rfl rfl rfl | exact R_muly 1 rfl rfl rfl rfl | exact R_muly 2 rfl rfl rfl rfl | exact R_muly 3 rfl rfl rfl rfl | exact R_quoy 2 rfl rfl rfl rfl | exact R_quoy 4 rfl rfl rfl rfl | exact R_quoy 8 rfl rfl rfl rfl | exact q_23 | exact q_15 | exact q_7)) | refine A_ct rfl ?_ | refine A_cf rfl ?_ | refine q_W ?_)
  refine O_cU2 1000 1001 (by decide) c2 rfl rfl rfl rfl rfl rfl rfl rfl rfl ?_
  repeat ((fail_if_success (refine stopL ?_)); first | refine q_Z ?_ | refine R_quiet rfl mixed (by kernel_rfl) ?_ | ((first | apply O_y rfl rfl rfl | apply Q_y rfl rfl rfl); (first | exact q_1 | exact q_2 | exact R_addN rfl rfl rfl | exact R_subN rfl rfl rfl | exact q_9 | exact q_10 | exact q_17 | exact q_19 | exact q_11 | exact q_12 | exact q_20 | exact q_25 | exact q_26 | exact q_14 | exact R_mulx 2 rfl rfl rfl rfl | exact R_muly 1 rfl rfl rfl rfl | exact R_muly 2 rfl rfl rfl rfl | exact R_muly 3 rfl rfl rfl rfl | exact R_quoy 2 rfl rfl rfl rfl | exact R_quoy 4 rfl rfl rfl rfl | exact R_quoy 8 rfl rfl rfl rfl | exact q_23 | exact q_15 | exact q_7)) | refine A_ct rfl ?_ | refine A_cf rfl ?_ | refine q_W ?_)
  refine O_cU2 1000 1001 (by decide) c3 rfl rfl rfl rfl rfl rfl rfl rfl rfl ?_
  repeat ((fail_if_success (refine stopL ?_)); first | refine q_Z ?_ | refine R_quiet rfl mixed (by kernel_rfl) ?_ | ((first | apply O_y rfl rfl rfl | apply Q_y rfl rfl rfl); (first | exact q_1 | exact q_2 | exact R_addN rfl rfl rfl | exact R_subN rfl rfl rfl | exact q_9 | exact q_10 | exact q_17 | exact q_19 | exact q_11 | exact q_12 | exact q_20 | exact q_25 | exact q_26 | exact q_14 | exact R_mulx 2 rfl rfl rfl rfl | exact R_muly 1 rfl rfl rfl rfl | exact R_muly 2 rfl rfl rfl rfl | exact R_muly 3 rfl rfl rfl rfl | exact R_quoy 2 rfl rfl rfl rfl | exact R_quoy 4 rfl rfl rfl rfl | exact R_quoy 8 rfl rfl rfl rfl | exact q_23 | exact q_15 | exact q_7)) | refine A_ct rfl ?_ | refine A_cf rfl ?_ | refine q_W ?_)
  exact X_retW AWk.refl rfl (h2 := [(1000, uR d), (1001, .var [natA s3])]) ⟨rfl, rfl, trivial⟩ ⟨rfl, rfl⟩
set_option maxHeartbeats 8000000 in
theorem medAdjU_A (d : Array Int) (a s : Nat) (ha : a + 1 < d.size) (h1 : 1 ≤ a) (hn : d.size ≤ 1000000000) (hs : s ≤ 900) : ACall Tryz.prog 137 [.row 1000, natA a, .ptr 1001 0] [(1000, uR d), (1001, .var [natA s])]
    (fun x h => x = natA (medianAdjacent ltInt d a s).1 ∧ h = [(1000, uR d), (1001, .var [natA (medianAdjacent ltInt d a s).2])]) := by
  have c1 := medianU_A d (a - 1) a (a + 1) s (by omega) (by omega) ha hs
  refine ACall_of tabOk Tryz.func137 rfl Tryz.ntmps137 (congrArg Array.toList Tryz.results137) (by kernel_rfl) rfl ?_
  repeat ((fail_if_success (refine stopL ?_)); first | refine q_Z ?_ | refine R_quiet rfl mixed (by kernel_rfl) ?_ | ((first | apply O_y rfl rfl rfl | apply Q_y rfl rfl rfl); (first | exact q_1 | exact q_2 | exact R_addN rfl rfl rfl | exact R_subN rfl rfl rfl | exact q_9 | exact q_10 | exact q_17 | exact q_19 | exact q_11 | exact q_12 | exact q_20 | exact q_25 | exact q_26 | exact q_14 | exact R_mulx 2 rfl rfl rfl rfl | exact R_muly 1 rfl rfl rfl rfl | exact R_muly 2 rfl rfl rfl rfl | exact R_muly 3 rfl rfl rfl rfl | exact R_quoy 2 rfl rfl rfl rfl | exact R_quoy 4 rfl rfl rfl rfl | exact R_quoy 8 rfl rfl rfl rfl | exact q_23 | exact q_15 | exact q_7)) | refine A_ct rfl ?_ | refine A_cf rfl ?_ | refine q_W ?_)
  refine O_cU2 1000 1001 (by decide) c1 rfl rfl rfl rfl rfl rfl rfl rfl rfl ?_
  repeat ((fail_if_success (refine stopL ?_)); first | refine q_Z ?_ | refine R_quiet rfl mixed (by kernel_rfl) ?_ | ((first | apply O_y rfl rfl rfl | apply Q_y rfl rfl rfl); (first | exact q_1 | exact q_2 | exact R_addN rfl rfl rfl | exact R_subN rfl rfl rfl | exact q_9 | exact q_10 | exact q_17 | exact q_19 | exact q_11 | exact q_12 | exact q_20 | exact q_25 | exact q_26 | exact q_14 | exact R_mulx 2 rfl rfl rfl rfl | exact R_muly 1 rfl rfl rfl rfl | exact R_muly 2 rfl rfl rfl rfl | exact R_muly 3 rfl rfl rfl rfl | exact R_quoy 2 rfl rfl rfl rfl | exact R_quoy 4 rfl rfl rfl rfl | exact R_quoy 8 rfl rfl rfl rfl | exact q_23 | exact q_15 | exact q_7)) | refine A_ct rfl ?_ | refine A_cf rfl ?_ | refine q_W ?_)
  exact X_retW AWk.refl rfl (h2 := [(1000, uR d), (1001, .var [natA (medianAdjacent ltInt d a s).2])]) ⟨rfl, rfl, trivial⟩ ⟨rfl, rfl⟩
def hintZ : Hint → Int
  | .unknown => 0
  | .increasing => 1
  | .decreasing => 2
abbrev hintA (h : Hint) : AVal := .d (.sc (.int .i64 (hintZ h)))
set_option maxHeartbeats 16000000 in
theorem chooseU_A (d : Array Int) (a b : Nat) (hn : d.size ≤ 1000000000) (hb : b ≤ d.size) (hl : 12 < b - a) : ACall Tryz.prog 129 [.row 1000, natA a, natA b] [(1000, uR d)]
    (fun c h => c = .tup [natA (choosePivot ltInt d a b).1, hintA (choosePivot ltInt d a b).2] ∧ h = [(1000, uR d)]) := by
  obtain ⟨i, hi⟩ : ∃ i, a + (b - a) / 4 * 1 = i := ⟨_, rfl⟩
  obtain ⟨j, hj⟩ : ∃ j, a + (b - a) / 4 * 2 = j := ⟨_, rfl⟩
  obtain ⟨k, hk⟩ : ∃ k, a + (b - a) / 4 * 3 = k := ⟨_, rfl⟩
  by_cases h50 : 50 ≤ b - a
  · have hch : choosePivot ltInt d a b = (let r := (let ri := medianAdjacent ltInt d i 0; let rj := medianAdjacent ltInt d j ri.2; let rk := medianAdjacent ltInt d k rj.2; median ltInt d ri.1 rj.1 rk.1 rk.2); (r.1, if r.2 = 0 then .increasing else if r.2 = 12 then .decreasing else .unknown)) := by
      unfold choosePivot
      simp only [hi, hj, hk]
      rw [if_pos (show b - a ≥ 8 by omega), if_pos (show b - a ≥ 50 from h50)]
    have m1 := medianAdjacent_mem ltInt d i 0
    have w1 := median_sw d (i - 1) i (i + 1) 0
    have c1 := medAdjU_A d i 0 (by omega) (by omega) hn (by omega)
    rw [← medianAdjacent] at w1
    obtain ⟨r1, hr1⟩ : ∃ r, medianAdjacent ltInt d i 0 = r := ⟨_, rfl⟩
    rw [hr1] at m1 w1 c1 hch
    obtain ⟨x1, s1⟩ := r1
    try dsimp only at m1 w1 c1 hch
    have m2 := medianAdjacent_mem ltInt d j s1
    have w2 := median_sw d (j - 1) j (j + 1) s1
    have c2 := medAdjU_A d j s1 (by omega) (by omega) hn (by omega)
    rw [← medianAdjacent] at w2
    obtain ⟨r2, hr2⟩ : ∃ r, medianAdjacent ltInt d j s1 = r := ⟨_, rfl⟩
    rw [hr2] at m2 w2 c2 hch
    obtain ⟨x2, s2⟩ := r2
    try dsimp only at m2 w2 c2 hch
    have m3 := medianAdjacent_mem ltInt d k s2
    have w3 := median_sw d (k - 1) k (k + 1) s2
    have c3 := medAdjU_A d k s2 (by omega) (by omega) hn (by omega)
    rw [← medianAdjacent] at w3
    obtain ⟨r3, hr3⟩ : ∃ r, medianAdjacent ltInt d k s2 = r := ⟨_, rfl⟩
    rw [hr3] at m3 w3 c3 hch
    obtain ⟨x3, s3⟩ := r3
    try dsimp only at m3 w3 c3 hch
    have c4 := medianU_A d x1 x2 x3 s3 (by omega) (by omega) (by omega) (by omega)
    obtain ⟨r4, hr4⟩ : ∃ r, median ltInt d x1 x2 x3 s3 = r := ⟨_, rfl⟩
    rw [hr4] at c4 hch
    obtain ⟨x4, s4⟩ := r4
    try dsimp only at c4 hch
    refine ACall_of tabOk Tryz.func129 rfl Tryz.ntmps129 (congrArg Array.toList Tryz.results129) (by kernel_rfl) rfl ?_
    repeat ((fail_if_success (refine stopL ?_)); first | refine q_Z ?_ | refine R_quiet rfl mixed (by kernel_rfl) ?_ | ((first | apply O_y rfl rfl rfl | apply Q_y rfl rfl rfl); (first | exact q_1 | exact q_2 | exact R_addN rfl rfl rfl | exact R_subN rfl rfl rfl | exact q_9 | exact q_10 | exact q_17 | exact q_19 | exact q_11 | exact q_12 | exact q_20 | exact q_25 | exact q_26 | exact q_14 | exact R_mulx 2 rfl rfl rfl rfl | exact R_muly 1 rfl rfl rfl rfl | exact R_muly 2 rfl rfl rfl rfl | exact R_muly 3 rfl rfl rfl rfl | exact R_quoy 2 rfl rfl rfl rfl | exact R_quoy 4 rfl rfl rfl rfl | exact R_quoy 8 rfl rfl rfl rfl | exact q_23 | exact q_15 | exact q_7)) | refine A_ct rfl ?_ | refine A_cf rfl ?_ | refine q_W ?_ | (refine q_a ?_))
    refine O_weaken (Wk_sel (e1 := [(0, .row 1000), (1, natA a), (2, natA b), (6, intA 0), (7, intA 0), (8, natA (b - a)), (9, .ptr 9 0), (10, natA i), (11, natA j), (12, natA k), (35, .row 1000), (36, natA i)]) (h1 := [(1000, uR d), (9, .var [natA 0])]) ⟨rfl, rfl, rfl, rfl, rfl, rfl, rfl, by rw [← hi]; rfl, by rw [← hj]; rfl, by rw [← hk]; rfl, rfl, by rw [← hi]; rfl, trivial⟩ ⟨rfl, rfl, trivial⟩) ?_
    refine O_cU2 1000 9 (by decide) c1 rfl rfl rfl rfl rfl rfl rfl rfl rfl ?_
    repeat ((fail_if_success (refine stopL ?_)); first | refine q_Z ?_ | refine R_quiet rfl mixed (by kernel_rfl) ?_ | ((first | apply O_y rfl rfl rfl | apply Q_y rfl rfl rfl); (first | exact q_1 | exact q_2 | exact R_addN rfl rfl rfl | exact R_subN rfl rfl rfl | exact q_9 | exact q_10 | exact q_17 | exact q_19 | exact q_11 | exact q_12 | exact q_20 | exact q_25 | exact q_26 | exact q_14 | exact R_mulx 2 rfl rfl rfl rfl | exact R_muly 1 rfl rfl rfl rfl | exact R_muly 2 rfl rfl rfl rfl | exact R_muly 3 rfl rfl rfl rfl | exact R_quoy 2 rfl rfl rfl rfl | exact R_quoy 4 rfl rfl rfl rfl | exact R_quoy 8 rfl rfl rfl rfl | exact q_23 | exact q_15 | exact q_7)) | refine A_ct rfl ?_ | refine A_cf rfl ?_ | refine q_W ?_)
    refine O_cU2 1000 9 (by decide) c2 rfl rfl rfl rfl rfl rfl rfl rfl rfl ?_
    repeat ((fail_if_success (refine stopL ?_)); first | refine q_Z ?_ | refine R_quiet rfl mixed (by kernel_rfl) ?_ | ((first | apply O_y rfl rfl rfl | apply Q_y rfl rfl rfl); (first | exact q_1 | exact q_2 | exact R_addN rfl rfl rfl | exact R_subN rfl rfl rfl | exact q_9 | exact q_10 | exact q_17 | exact q_19 | exact q_11 | exact q_12 | exact q_20 | exact q_25 | exact q_26 | exact q_14 | exact R_mulx 2 rfl rfl rfl rfl | exact R_muly 1 rfl rfl rfl rfl | exact R_muly 2 rfl rfl rfl rfl | exact R_muly 3 rfl rfl rfl rfl | exact R_quoy 2 rfl rfl rfl rfl | exact R_quoy 4 rfl rfl rfl rfl | exact R_quoy 8 rfl rfl rfl rfl | exact q_23 | exact q_15 | exact q_7)) | refine A_ct rfl ?_ | refine A_cf rfl ?_ | refine q_W ?_)
    refine O_cU2 1000 9 (by decide) c3 rfl rfl rfl rfl rfl rfl rfl rfl rfl ?_
    repeat ((fail_if_success (refine stopL ?_)); first | refine q_Z ?_ | refine R_quiet rfl mixed (by kernel_rfl) ?_ | ((first | apply O_y rfl rfl rfl | apply Q_y rfl rfl rfl); (first | exact q_1 | exact q_2 | exact R_addN rfl rfl rfl | exact R_subN rfl rfl rfl | exact q_9 | exact q_10 | exact q_17 | exact q_19 | exact q_11 | exact q_12 | exact q_20 | exact q_25 | exact q_26 | exact q_14 | exact R_mulx 2 rfl rfl rfl rfl | exact R_muly 1 rfl rfl rfl rfl | exact R_muly 2 rfl rfl rfl rfl | exact R_muly 3 rfl rfl rfl rfl | exact R_quoy 2 rfl rfl rfl rfl | exact R_quoy 4 rfl rfl rfl rfl | exact R_quoy 8 rfl rfl rfl rfl | exact q_23 | exact q_15 | exact q_7)) | refine A_ct rfl ?_ | refine A_cf rfl ?_ | refine q_W ?_)
    refine O_cU2 1000 9 (by decide) c4 rfl rfl rfl rfl rfl rfl rfl rfl rfl ?_
    by_cases hz : s4 = 0
    ·
      repeat ((fail_if_success (refine stopL ?_)); first | refine q_Z ?_ | refine R_quiet rfl mixed (by kernel_rfl) ?_ | ((first | apply O_y rfl rfl rfl | apply Q_y rfl rfl rfl); (first | exact q_1 | exact q_2 | exact R_addN rfl rfl rfl | exact R_subN rfl rfl rfl | exact q_9 | exact q_10 | exact q_17 | exact q_19 | exact q_11 | exact q_12 | exact q_20 | exact q_25 | exact q_26 | exact q_14 | exact R_mulx 2 rfl rfl rfl rfl | exact R_muly 1 rfl rfl rfl rfl | exact R_muly 2 rfl rfl rfl rfl | exact R_muly 3 rfl rfl rfl rfl | exact R_quoy 2 rfl rfl rfl rfl | exact R_quoy 4 rfl rfl rfl rfl | exact R_quoy 8 rfl rfl rfl rfl | exact q_23 | exact q_15 | exact q_7)) | refine A_ct rfl ?_ | refine A_cf rfl ?_ | refine q_W ?_ | (refine q_a ?_))
      exact X_retW AWk.refl rfl (h2 := [(1000, uR d)]) ⟨rfl, trivial⟩ ⟨by rw [hch, if_pos hz]; rfl, rfl⟩
    · by_cases hz2 : s4 = 12
      ·
        repeat ((fail_if_success (refine stopL ?_)); first | refine q_Z ?_ | refine R_quiet rfl mixed (by kernel_rfl) ?_ | ((first | apply O_y rfl rfl rfl | apply Q_y rfl rfl rfl); (first | exact q_1 | exact q_2 | exact R_addN rfl rfl rfl | exact R_subN rfl rfl rfl | exact q_9 | exact q_10 | exact q_17 | exact q_19 | exact q_11 | exact q_12 | exact q_20 | exact q_25 | exact q_26 | exact q_14 | exact R_mulx 2 rfl rfl rfl rfl | exact R_muly 1 rfl rfl rfl rfl | exact R_muly 2 rfl rfl rfl rfl | exact R_muly 3 rfl rfl rfl rfl | exact R_quoy 2 rfl rfl rfl rfl | exact R_quoy 4 rfl rfl rfl rfl | exact R_quoy 8 rfl rfl rfl rfl | exact q_23 | exact q_15 | exact q_7)) | refine A_ct rfl ?_ | refine A_cf rfl ?_ | refine q_W ?_ | (refine q_a ?_))
        exact X_retW AWk.refl rfl (h2 := [(1000, uR d)]) ⟨rfl, trivial⟩ ⟨by rw [hch, if_neg hz, if_pos hz2]; rfl, rfl⟩
      ·
        repeat ((fail_if_success (refine stopL ?_)); first | refine q_Z ?_ | refine R_quiet rfl mixed (by kernel_rfl) ?_ | ((first | apply O_y rfl rfl rfl | apply Q_y rfl rfl rfl); (first | exact q_1 | exact q_2 | exact R_addN rfl rfl rfl | exact R_subN rfl rfl rfl | exact q_9 | exact q_10 | exact q_17 | exact q_19 | exact q_11 | exact q_12 | exact q_20 | exact q_25 | exact q_26 | exact q_14 | exact R_mulx 2 rfl rfl rfl rfl | exact R_muly 1 rfl rfl rfl rfl | exact R_muly 2 rfl rfl rfl rfl | exact R_muly 3 rfl rfl rfl rfl | exact R_quoy 2 rfl rfl rfl rfl | exact R_quoy 4 rfl rfl rfl rfl | exact R_quoy 8 rfl rfl rfl rfl | exact q_23 | exact q_15 | exact q_7)) | refine A_ct rfl ?_ | refine A_cf rfl ?_ | refine q_W ?_ | (refine q_a ?_))
        exact X_retW AWk.refl rfl (h2 := [(1000, uR d)]) ⟨rfl, trivial⟩ ⟨by rw [hch, if_neg hz, if_neg hz2]; rfl, rfl⟩
  · have hch : choosePivot ltInt d a b = (let r := median ltInt d i j k 0; (r.1, if r.2 = 0 then .increasing else if r.2 = 12 then .decreasing else .unknown)) := by
      unfold choosePivot
      simp only [hi, hj, hk]
      rw [if_pos (show b - a ≥ 8 by omega), if_neg (show ¬ b - a ≥ 50 from h50)]
    have c4 := medianU_A d i j k 0 (by omega) (by omega) (by omega) (by omega)
    obtain ⟨r4, hr4⟩ : ∃ r, median ltInt d i j k 0 = r := ⟨_, rfl⟩
    rw [hr4] at c4 hch
    obtain ⟨x4, s4⟩ := r4
    try dsimp only at c4 hch
    refine ACall_of tabOk Tryz.func129 rfl Tryz.ntmps129 (congrArg Array.toList Tryz.results129) (by kernel_rfl) rfl ?_
    repeat ((fail_if_success (refine stopL ?_)); first | refine q_Z ?_ | refine R_quiet rfl mixed (by kernel_rfl) ?_ | ((first | apply O_y rfl rfl rfl | apply Q_y rfl rfl rfl); (first | exact q_1 | exact q_2 | exact R_addN rfl rfl rfl | exact R_subN rfl rfl rfl | exact q_9 | exact q_10 | exact q_17 | exact q_19 | exact q_11 | exact q_12 | exact q_20 | exact q_25 | exact q_26 | exact q_14 | exact R_mulx 2 rfl rfl rfl rfl | exact R_muly 1 rfl rfl rfl rfl | exact R_muly 2 rfl rfl rfl rfl | exact R_muly 3 rfl rfl rfl rfl | exact R_quoy 2 rfl rfl rfl rfl | exact R_quoy 4 rfl rfl rfl rfl | exact R_quoy 8 rfl rfl rfl rfl | exact q_23 | exact q_15 | exact q_7)) | refine A_ct rfl ?_ | refine A_cf rfl ?_ | refine q_W ?_ | (refine q_a ?_))
    refine O_weaken (Wk_sel (e1 := [(0, .row 1000), (1, natA a), (2, natA b), (6, intA 0), (7, intA 0), (8, natA (b - a)), (9, .ptr 9 0), (10, natA i), (11, natA j), (12, natA k), (44, .row 1000), (45, natA i), (46, natA j), (47, natA k)]) (h1 := [(1000, uR d), (9, .var [natA 0])]) ⟨rfl, rfl, rfl, rfl, rfl, rfl, rfl, by rw [← hi]; rfl, by rw [← hj]; rfl, by rw [← hk]; rfl, rfl, by rw [← hi]; rfl, by rw [← hj]; rfl, by rw [← hk]; rfl, trivial⟩ ⟨rfl, rfl, trivial⟩) ?_
    refine O_cU2 1000 9 (by decide) c4 rfl rfl rfl rfl rfl rfl rfl rfl rfl ?_
    by_cases hz : s4 = 0
    ·
      repeat ((fail_if_success (refine stopL ?_)); first | refine q_Z ?_ | refine R_quiet rfl mixed (by kernel_rfl) ?_ | ((first | apply O_y rfl rfl rfl | apply Q_y rfl rfl rfl); (first | exact q_1 | exact q_2 | exact R_addN rfl rfl rfl | exact R_subN rfl rfl rfl | exact q_9 | exact q_10 | exact q_17 | exact q_19 | exact q_11 | exact q_12 | exact q_20 | exact q_25 | exact q_26 | exact q_14 | exact R_mulx 2 rfl rfl rfl rfl | exact R_muly 1 rfl rfl rfl rfl | exact R_muly 2 rfl rfl rfl rfl | exact R_muly 3 rfl rfl rfl rfl | exact R_quoy 2 rfl rfl rfl rfl | exact R_quoy 4 rfl rfl rfl rfl | exact R_quoy 8 rfl rfl rfl rfl | exact q_23 | exact q_15 | exact q_7)) | refine A_ct rfl ?_ | refine A_cf rfl ?_ | refine q_W ?_ | (refine q_a ?_))
      exact X_retW AWk.refl rfl (h2 := [(1000, uR d)]) ⟨rfl, trivial⟩ ⟨by rw [hch, if_pos hz]; rfl, rfl⟩
    · by_cases hz2 : s4 = 12
      ·
        repeat ((fail_if_success (refine stopL ?_)); first | refine q_Z ?_ | refine R_quiet rfl mixed (by kernel_rfl) ?_ | ((first | apply O_y rfl rfl rfl | apply Q_y rfl rfl rfl); (first | exact q_1 | exact q_2 | exact R_addN rfl rfl rfl | exact R_subN rfl rfl rfl | exact q_9 | exact q_10 | exact q_17 | exact q_19 | exact q_11 | exact q_12 | exact q_20 | exact q_25 | exact q_26 | exact q_14 | exact R_mulx 2 rfl rfl rfl rfl | exact R_muly 1 rfl rfl rfl rfl | exact R_muly 2 rfl rfl rfl rfl | exact R_muly 3 rfl rfl rfl rfl | exact R_quoy 2 rfl rfl rfl rfl | exact R_quoy 4 rfl rfl rfl rfl | exact R_quoy 8 rfl rfl rfl rfl | exact q_23 | exact q_15 | exact q_7)) | refine A_ct rfl ?_ | refine A_cf rfl ?_ | refine q_W ?_ | (refine q_a ?_))
        exact X_retW AWk.refl rfl (h2 := [(1000, uR d)]) ⟨rfl, trivial⟩ ⟨by rw [hch, if_neg hz, if_pos hz2]; rfl, rfl⟩
      ·
        repeat ((fail_if_success (refine stopL ?_)); first | refine q_Z ?_ | refine R_quiet rfl mixed (by kernel_rfl) ?_ | ((first | apply O_y rfl rfl rfl | apply Q_y rfl rfl rfl); (first | exact q_1 | exact q_2 | exact R_addN rfl rfl rfl | exact R_subN rfl rfl rfl | exact q_9 | exact q_10 | exact q_17 | exact q_19 | exact q_11 | exact q_12 | exact q_20 | exact q_25 | exact q_26 | exact q_14 | exact R_mulx 2 rfl rfl rfl rfl | exact R_muly 1 rfl rfl rfl rfl | exact R_muly 2 rfl rfl rfl rfl | exact R_muly 3 rfl rfl rfl rfl | exact R_quoy 2 rfl rfl rfl rfl | exact R_quoy 4 rfl rfl rfl rfl | exact R_quoy 8 rfl rfl rfl rfl | exact q_23 | exact q_15 | exact q_7)) | refine A_ct rfl ?_ | refine A_cf rfl ?_ | refine q_W ?_ | (refine q_a ?_))
        exact X_retW AWk.refl rfl (h2 := [(1000, uR d)]) ⟨rfl, trivial⟩ ⟨by rw [hch, if_neg hz, if_neg hz2]; rfl, rfl⟩
end Go.Proofs.YtpnhkkejcnicoaaGreat.Ab

namespace Go.Proofs
open Go.Shelf
def Tryz.laysLen_ren : Go.Shelf.Ren := ⟨fun | 125 => 39 | 128 => 67 | 129 => 68 | n => n, fun | 46 => 96 | 3 => 3 | 51 => 41 | 53 => 130 | 4 => 4 | 5 => 5 | 9 => 9 | n => n, fun | n => n⟩
theorem Tryz.laysLen : Go.Proofs.Lays.n125 Tryz.prog Tryz.laysLen_ren := {
  mixed := by kernel_rfl
  f125 := Tryz.func39.trans (congrArg some (by kernel_rfl))
  f128 := Tryz.func67.trans (congrArg some (by kernel_rfl))
  f129 := Tryz.func68.trans (congrArg some (by kernel_rfl))
  t3 := Tryz.underlying3
  a3 := Tryz.isAgg3
  z3 := Tryz.sizeOf3
  v3 := Tryz.zeroValue3
  t4 := Tryz.underlying4
  a4 := Tryz.isAgg4
  z4 := Tryz.sizeOf4
  v4 := Tryz.zeroValue4
  t5 := Tryz.underlying5
  a5 := Tryz.isAgg5
  z5 := Tryz.sizeOf5
  v5 := Tryz.zeroValue5
  t9 := Tryz.underlying9
  a9 := Tryz.isAgg9
  z9 := Tryz.sizeOf9
  v9 := Tryz.zeroValue9
  t46 := Tryz.underlying96
  a46 := Tryz.isAgg96
  z46 := Tryz.sizeOf96
  v46 := Tryz.zeroValue96
  t51 := Tryz.underlying41
  a51 := Tryz.isAgg41
  z51 := Tryz.sizeOf41
  v51 := Tryz.zeroValue41
  t53 := Tryz.underlying130
  a53 := Tryz.isAgg130
  z53 := Tryz.sizeOf130
  v53 := Tryz.zeroValue130 }
def Tryz.laysPow_ren : Go.Shelf.Ren := ⟨fun | 47 => 98 | 15 => 39 | 28 => 67 | 29 => 68 | n => n, fun | 3 => 3 | 39 => 96 | 53 => 41 | 55 => 130 | 4 => 4 | 5 => 5 | 9 => 9 | n => n, fun | n => n⟩
theorem Tryz.laysPow : Go.Proofs.SlLaysF0.n47 Tryz.prog Tryz.laysPow_ren := {
  mixed := by kernel_rfl
  f15 := Tryz.func39.trans (congrArg some (by kernel_rfl))
  f28 := Tryz.func67.trans (congrArg some (by kernel_rfl))
  f29 := Tryz.func68.trans (congrArg some (by kernel_rfl))
  f47 := Tryz.func98.trans (congrArg some (by kernel_rfl))
  t3 := Tryz.underlying3
  a3 := Tryz.isAgg3
  z3 := Tryz.sizeOf3
  v3 := Tryz.zeroValue3
  t4 := Tryz.underlying4
  a4 := Tryz.isAgg4
  z4 := Tryz.sizeOf4
  v4 := Tryz.zeroValue4
  t5 := Tryz.underlying5
  a5 := Tryz.isAgg5
  z5 := Tryz.sizeOf5
  v5 := Tryz.zeroValue5
  t9 := Tryz.underlying9
  a9 := Tryz.isAgg9
  z9 := Tryz.sizeOf9
  v9 := Tryz.zeroValue9
  t39 := Tryz.underlying96
  a39 := Tryz.isAgg96
  z39 := Tryz.sizeOf96
  v39 := Tryz.zeroValue96
  t53 := Tryz.underlying41
  a53 := Tryz.isAgg41
  z53 := Tryz.sizeOf41
  v53 := Tryz.zeroValue41
  t55 := Tryz.underlying130
  a55 := Tryz.isAgg130
  z55 := Tryz.sizeOf130
  v55 := Tryz.zeroValue130 }
def Tryz.laysNext_ren : Go.Shelf.Ren := ⟨fun | 48 => 99 | n => n, fun | 76 => 176 | 55 => 130 | 0 => 0 | 66 => 159 | 39 => 96 | n => n, fun | n => n⟩
theorem Tryz.laysNext : Go.Proofs.SlLaysF0.n48 Tryz.prog Tryz.laysNext_ren := {
  mixed := by kernel_rfl
  f48 := Tryz.func99.trans (congrArg some (by kernel_rfl))
  t0 := Tryz.underlying0
  a0 := Tryz.isAgg0
  z0 := Tryz.sizeOf0
  v0 := Tryz.zeroValue0
  t39 := Tryz.underlying96
  a39 := Tryz.isAgg96
  z39 := Tryz.sizeOf96
  v39 := Tryz.zeroValue96
  t55 := Tryz.underlying130
  a55 := Tryz.isAgg130
  z55 := Tryz.sizeOf130
  v55 := Tryz.zeroValue130
  t66 := Tryz.underlying159
  a66 := Tryz.isAgg159
  z66 := Tryz.sizeOf159
  v66 := Tryz.zeroValue159
  t76 := Tryz.underlying176
  a76 := Tryz.isAgg176
  z76 := Tryz.sizeOf176
  v76 := Tryz.zeroValue176 }
end Go.Proofs

namespace Go.Proofs.YtpnhkkejcnicoaaGreat.Ab
set_option linter.unusedVariables false
set_option maxRecDepth 100000
open Go.RowKit Go.Lib Go.Sort
section
variable {P : Program} {nt : Nat} {Q : Post} {e : Env} {h : Heap} {ops : Array Oper} {o : Oper} {rest : List Oper} {T : List Nat}
def u64A (n : Nat) : AVal := .d (.sc (.int .u64 (n : Int)))
theorem R_andU {t u : TypeId} {x y : Operand} {a b : Nat} (ho : o.op = .binOp .and t x y u) (hx : aev e x = some (u64A a)) (hy : aev e y = some (u64A b)) (ha : a < 18446744073709551616) (hb : b < 18446744073709551616) :
    AYield P T e h o (u64A (a &&& b)) := yield_of _ fun w F ι ac E =>
  ⟨.int .u64 ((a &&& b : Nat) : Int), sc_rel rfl, fun w' => by
    have h1 := bits_and_u64_nat a b ha hb
    simp only [execOp, ho, (sc_of (aev_rel E hx)).1, (sc_of (aev_rel E hy)).1]
    simp only [eqGuard, binOp]
    rw [← h1]
    rfl⟩
theorem R_subU {t u : TypeId} {x y : Operand} {a : Nat} {m : Int} (b : Nat) (ho : o.op = .binOp .sub t x y u) (hx : aev e x = some (u64A a)) (hy : aev e y = some (.d (.sc (.int .u64 m)))) (hm : m = (b : Int)) (ha : a < 18446744073709551616) (hb : b ≤ a) :
    AYield P T e h o (u64A (a - b)) := by
  subst hm
  refine Y_sub ho hx hy ?_
  rw [IntKind.wrap_u64]; omega
theorem O_cV {f : FuncId} {args : Array Operand} {ats : Array TypeId} {cs cs0 : List AVal} {c : AVal} {d X Y : Nat} (i : Nat) (H : ACall P f cs [(1000, .var [u64A X])] (fun c' h' => c' = c ∧ h' = [(1000, .var [u64A Y])]))
    (hok : cs.all (okV [(1000, i)]) = true) (hb : look h i = some (.var [u64A X])) (hw : awant ops e o = some true) (hdst : o.dst = some d) (hd : Nat.blt d nt = true) (ho : o.op = .call { callee := .value (.func f), args := args, argTypes := ats }) (hx : aevs e args.toList = some cs0) (hcs : cs.map (renV [(1000, i)]) = cs0)
    (HK : AOps P nt ops Q rest ((d, renV [(1000, i)] c) :: e) ((i, .var [u64A Y]) :: h)) : AOps P nt ops Q (o :: rest) e h := by
  refine O_cP [(1000, i)] (fun p p' i h1 h2 => by rw [(look_oneU h1).1, (look_oneU h2).1]) (fun p i h1 => by rw [(look_oneU h1).1]; exact ⟨Nat.le_refl _, rfl, rfl⟩) H (fun c hc => List.all_eq_true.1 hok c hc) ⟨⟨i, _, rfl, hb, rfl, fun c hc => by simp at hc; subst hc; rfl⟩, trivial⟩ hw hdst hd ho hx hcs ?_
  exact HK
end
theorem nextU_A (X : Nat) (hX : X < 18446744073709551616) : ACall Tryz.prog 99 [.ptr 1000 0] [(1000, .var [u64A X])] (fun c h => c = u64A (xorNextN X) ∧ h = [(1000, .var [u64A (xorNextN X)])]) := by
  refine ⟨by kernel_rfl, fun Pm F w0 pin ι us w H HA => ?_⟩
  obtain ⟨v, hv, g, C, tt, rfl, hC, hlC, hr⟩ := H.blk 1000 _ rfl
  have hus : us = #[.pointer (some ⟨g, 0, none⟩)] := by
    have hsz : us.size = 1 := HA.1
    obtain ⟨u0, rfl⟩ : ∃ u0, us = #[u0] := ⟨us[0], by apply Array.ext <;> simp [hsz]; intro i h; subst h; rfl⟩
    have h0 := HA.2 0 _ u0 rfl rfl
    cases h0 with
    | ptr _ _ _ h1 h2 =>
      obtain ⟨r', h3, rfl⟩ := h2 _ hv
      cases h3
      rfl
  have hCs : C = #[.int .u64 (X : Int)] := by
    have hsz : C.size = 1 := hlC
    obtain ⟨u0, rfl⟩ : ∃ u0, C = #[u0] := ⟨C[0], by apply Array.ext <;> simp [hsz]; intro i h; subst h; rfl⟩
    have h0 := hr 0 _ u0 rfl rfl
    rw [(sc_of h0).1]
  subst hus hCs
  have hc : w.cell? ⟨g, 0, none⟩ = some (.int .u64 (X : Int)) := by simp [World.cell?, hC]
  have hf : w.frozen? ⟨g, 0, none⟩ = false := by simp [World.frozen?, hC]
  refine (AnyF.xorshift_Next Tryz.laysNext g 0 X hX w hc hf).mono ?_
  rintro x w' ⟨rfl, rfl⟩
  have hg : ((w.setCell ⟨g, 0, none⟩ (.int .u64 ((xorNextN X : Nat) : Int))).drewN 3).heap[g]? = some (.cells #[.int .u64 ((xorNextN X : Nat) : Int)] tt (0, 0)) := by
    rw [World.heap_drewN]
    simp [World.setCell, Array.getElem?_modify, hC]
  have hW : Wrote w (.pointer (some ⟨g, 0, none⟩)) ((w.setCell ⟨g, 0, none⟩ (.int .u64 ((xorNextN X : Nat) : Int))).drewN 3) := by
    refine ⟨rfl, rfl, rfl, by simp [World.setCell], fun r hr hne => ?_⟩
    have : g ≠ r := by rintro rfl; exact hne rfl
    rw [World.heap_drewN]
    simp [World.setCell, Array.getElem?_modify, this]
  have HB := H.wrote hW hv (b' := .var [u64A (xorNextN X)]) ⟨g, _, tt, rfl, hg, rfl, fun i c u h1 h2 => ?_⟩
  · refine ⟨_, u64A (xorNextN X), _, ι, rfl, ⟨rfl, rfl⟩, ?_, sc_rel rfl⟩
    have := HB.only (h' := [(1000, .var [u64A (xorNextN X)])]) fun id b hb => by
      by_cases hid : 1000 = id
      · subst hid; exact hb
      · rw [look_cons_ne _ _ hid] at hb; cases hb
    have e : Ab.only [(1000, ABlk.var [u64A (xorNextN X)])] ι = ι := funext fun id => by
      unfold Ab.only
      split
      · rfl
      · rename_i hn2
        cases hi : ι id with
        | none => rfl
        | some v' =>
          obtain ⟨b, hb⟩ := H.dom id v' hi
          by_cases hid : 1000 = id
          · subst hid; exact absurd rfl hn2
          · rw [look_cons_ne _ _ hid] at hb; cases hb
    rw [e] at this
    exact this
  · cases i with
    | zero => cases h1; cases h2; exact sc_rel rfl
    | succ i => cases h1
end Go.Proofs.YtpnhkkejcnicoaaGreat.Ab

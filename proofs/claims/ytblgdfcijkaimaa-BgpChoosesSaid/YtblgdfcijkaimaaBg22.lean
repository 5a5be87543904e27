/-
  Texts of a proof, one behind the other (part 23).
-/
import Derived.Test.YtblgdfcijkaimaaBg1
import Derived.Test.YtblgdfcijkaimaaBg4
import Derived.Test.YtblgdfcijkaimaaBg7
import Derived.Test.YtblgdfcijkaimaaBg11
import Derived.Test.YtblgdfcijkaimaaBg13
set_option linter.unusedVariables false
set_option linter.unusedSimpArgs false
namespace Go.Proofs.Ytblgdfcijkaimaa.Ab
set_option linter.unusedVariables false
set_option maxRecDepth 100000
open Go.RowKit Go.Lib
set_option linter.unusedSimpArgs false
attribute [local irreducible] AWp AOps AQ AYield AEff ACall AWk AAny AAt AThen AIn APost NoPanic
def addrA (x : Int) : AVal := .d (uD x)
theorem cmpInt_A (x y : Int) : ACall Try.prog 33 [intA x, intA y] [] (Just (intA (c2 x y))) := ACall_val (by kernel_rfl) rfl rfl rfl fun w => (compareI_any x y w).mono fun e w' ⟨h1, h2⟩ => ⟨h1, by subst h2; exact (Grew.refl w).below⟩
theorem cmpAddr_A (x y : Int) : ACall Try.prog 34 [addrA x, addrA y] [] (Just (intA (c2 x y))) := ACall_val (by kernel_rfl) rfl rfl rfl fun w => (compareA_any x y w).mono fun e w' ⟨h1, h2⟩ => ⟨h1, by subst h2; exact (Grew.refl w).below⟩
theorem boolean_A (b : Bool) : ACall Try.prog 31 [boolA b] [] (Just (intA (bInt b))) := by
  cases b with
  | true =>
    refine ACall_of tabOk Try.func31 rfl Try.ntmps31 (congrArg Array.toList Try.results31) (by kernel_rfl) rfl ?_
    repeat (first | refine q_Z ?_ | refine R_quiet rfl mixed (by kernel_rfl) ?_ | ((first | apply O_y rfl rfl rfl | apply Q_y rfl rfl rfl); (first | exact q_A | exact q_5 | exact q_B | (first | exact q_25 | exact q_26 | exact q_20))) | refine q_d ?_ | refine q_a ?_ | refine q_b ?_ | refine q_c ?_ | refine A_ct rfl ?_ | refine A_cf rfl ?_ | refine q_W ?_)
    exact X_ret rfl ⟨rfl, rfl⟩
  | false =>
    refine ACall_of tabOk Try.func31 rfl Try.ntmps31 (congrArg Array.toList Try.results31) (by kernel_rfl) rfl ?_
    repeat (first | refine q_Z ?_ | refine R_quiet rfl mixed (by kernel_rfl) ?_ | ((first | apply O_y rfl rfl rfl | apply Q_y rfl rfl rfl); (first | exact q_A | exact q_5 | exact q_B | (first | exact q_25 | exact q_26 | exact q_20))) | refine q_d ?_ | refine q_a ?_ | refine q_b ?_ | refine q_c ?_ | refine A_ct rfl ?_ | refine A_cf rfl ?_ | refine q_W ?_)
    exact X_ret rfl ⟨rfl, rfl⟩
def i1D (x : Int) : List Dat := [iD x]
theorem i1D_len (x : Int) : (i1D x).length = 1 := rfl
theorem firstI_nz : ∀ (l : List Int) (k : Nat), (∀ (j : Nat) (hj : j < l.length), j < k → l[j] = 0) → firstI l = firstI (l.drop k)
  | [], k, _ => by simp
  | x :: l, 0, _ => rfl
  | x :: l, k + 1, h => by
    have h0 : x = 0 := h 0 (by simp) (by omega)
    rw [firstI, if_pos h0, List.drop_succ_cons]
    exact firstI_nz l k fun j hj hjk => h (j + 1) (by simpa using hj) (by omega)
theorem bgpFirst_A (l : List Int) (hn : l.length ≤ 100) : ACall Try.prog 32 [.d (.sl (l.flatMap i1D) l.length)] [] (Just (intA (firstI l))) := by
  refine ACall_of tabOk Try.func32 rfl Try.ntmps32 (congrArg Array.toList Try.results32) (by kernel_rfl) rfl ?_
  repeat (first | refine q_Z ?_ | refine R_quiet rfl mixed (by kernel_rfl) ?_ | ((first | apply O_y rfl rfl rfl | apply Q_y rfl rfl rfl); (first | exact q_A | exact q_5 | exact q_B)) | refine q_d ?_ | refine q_a ?_ | refine q_b ?_ | refine q_c ?_ | refine A_ct rfl ?_ | refine A_cf rfl ?_ | refine q_W ?_)
  refine A_loop (fun k : Nat => [(5, .d (.sl (l.flatMap i1D) l.length)), (6, intA (l.length : Int)), (7, intA (k : Int))]) (fun _ => []) (fun k => k ≤ l.length ∧ ∀ (j : Nat) (hj : j < l.length), j < k → l[j] = 0) (fun k => l.length - k) 0 ⟨Nat.zero_le _, fun j _ h => by omega⟩ (Wk_sel ⟨rfl, rfl, rfl, trivial⟩ trivial) ?_
  rintro k ⟨hkl, hz⟩
  try dsimp only
  have hf := firstI_nz l k hz
  by_cases hk : k < l.length
  · rw [List.drop_eq_getElem_cons hk, firstI] at hf
    by_cases h0 : l[k] = 0
    ·
      repeat (first | refine q_Z ?_ | refine R_quiet rfl mixed (by kernel_rfl) ?_ | ((first | apply O_y rfl rfl rfl | apply Q_y rfl rfl rfl); (first | exact q_A | exact R_loadi tabOk rfl rfl rfl rfl (by first | exact win_flat0 i1D_len l k _ hk (by decide) | exact win_flat i1D_len l k _ _ hk (by decide) | exact win_flat2 i1D_len l k _ _ _ hk (by decide) | rfl) rfl rfl | exact q_B | (first | exact q_25 | exact q_26 | exact q_20))) | refine q_d ?_ | refine q_a ?_ | refine q_b ?_ | refine q_c ?_ | refine A_ct rfl ?_ | refine A_cf rfl ?_ | refine q_W ?_)
      exact ⟨k + 1, ⟨by omega, fun j hj hjk => by
        by_cases e : j = k
        · subst e; exact h0
        · exact hz j hj (by omega)⟩, by omega, Wk_sel ⟨rfl, rfl, rfl, trivial⟩ trivial⟩
    · rw [if_neg h0] at hf
      rw [hf]
      repeat (first | refine q_Z ?_ | refine R_quiet rfl mixed (by kernel_rfl) ?_ | ((first | apply O_y rfl rfl rfl | apply Q_y rfl rfl rfl); (first | exact q_A | exact R_loadi tabOk rfl rfl rfl rfl (by first | exact win_flat0 i1D_len l k _ hk (by decide) | exact win_flat i1D_len l k _ _ hk (by decide) | exact win_flat2 i1D_len l k _ _ _ hk (by decide) | rfl) rfl rfl | exact q_B | (first | exact q_25 | exact q_26 | exact q_20))) | refine q_d ?_ | refine q_a ?_ | refine q_b ?_ | refine q_c ?_ | refine A_ct rfl ?_ | refine A_cf rfl ?_ | refine q_W ?_)
      exact X_ret rfl ⟨rfl, rfl⟩
  · obtain rfl : k = l.length := by omega
    rw [List.drop_length] at hf
    rw [hf]
    repeat (first | refine q_Z ?_ | refine R_quiet rfl mixed (by kernel_rfl) ?_ | ((first | apply O_y rfl rfl rfl | apply Q_y rfl rfl rfl); (first | exact q_A | exact q_5 | exact q_B | (first | exact q_25 | exact q_26 | exact q_20))) | refine q_d ?_ | refine q_a ?_ | refine q_b ?_ | refine q_c ?_ | refine A_ct rfl ?_ | refine A_cf rfl ?_ | refine q_W ?_)
    exact X_ret rfl ⟨rfl, rfl⟩
theorem orAddr_A (x y : Int) : ACall Try.prog 30 [.d (.sl [uD x, uD y] 2)] [] (Just (addrA (if x ≠ 0 then x else y))) := by
  by_cases hx : x = 0
  · rw [if_neg (by simpa using hx)]
    refine ACall_of tabOk Try.func30 rfl Try.ntmps30 (congrArg Array.toList Try.results30) (by kernel_rfl) rfl ?_
    repeat (first | refine q_Z ?_ | refine R_quiet rfl mixed (by kernel_rfl) ?_ | ((first | apply O_y rfl rfl rfl | apply Q_y rfl rfl rfl); (first | exact q_A | exact q_5 | exact q_B)) | refine q_d ?_ | refine q_a ?_ | refine q_b ?_ | refine q_c ?_ | refine A_ct rfl ?_ | refine A_cf rfl ?_ | refine q_W ?_)
    refine A_loop (fun k : Nat => [(3, addrA 0), (6, .d (.sl [uD x, uD y] 2)), (7, intA 2), (8, intA (k : Int))]) (fun _ => []) (fun k => k ≤ 2 ∧ (k = 2 → y = 0)) (fun k => 2 - k) 0 ⟨by omega, by omega⟩ (Wk_sel ⟨rfl, rfl, rfl, rfl, trivial⟩ trivial) ?_
    rintro k ⟨hk, hky⟩
    try dsimp only
    match k, hk with
    | 0, _ =>
      subst hx
      repeat (first | refine q_Z ?_ | refine R_quiet rfl mixed (by kernel_rfl) ?_ | ((first | apply O_y rfl rfl rfl | apply Q_y rfl rfl rfl); (first | exact q_A | exact q_5 | exact q_B | (first | exact q_25 | exact q_26 | exact q_20))) | refine q_d ?_ | refine q_a ?_ | refine q_b ?_ | refine q_c ?_ | refine A_ct rfl ?_ | refine A_cf rfl ?_ | refine q_W ?_)
      exact ⟨1, by omega, by omega, Wk_sel ⟨rfl, rfl, rfl, rfl, trivial⟩ trivial⟩
    | 1, _ =>
      by_cases hy : y = 0
      · subst hy
        repeat (first | refine q_Z ?_ | refine R_quiet rfl mixed (by kernel_rfl) ?_ | ((first | apply O_y rfl rfl rfl | apply Q_y rfl rfl rfl); (first | exact q_A | exact q_5 | exact q_B | (first | exact q_25 | exact q_26 | exact q_20))) | refine q_d ?_ | refine q_a ?_ | refine q_b ?_ | refine q_c ?_ | refine A_ct rfl ?_ | refine A_cf rfl ?_ | refine q_W ?_)
        exact ⟨2, by omega, by omega, Wk_sel ⟨rfl, rfl, rfl, rfl, trivial⟩ trivial⟩
      ·
        repeat (first | refine q_Z ?_ | refine R_quiet rfl mixed (by kernel_rfl) ?_ | ((first | apply O_y rfl rfl rfl | apply Q_y rfl rfl rfl); (first | exact q_A | exact q_5 | exact q_B | (first | exact q_25 | exact q_26 | exact q_20))) | refine q_d ?_ | refine q_a ?_ | refine q_b ?_ | refine q_c ?_ | refine A_ct rfl ?_ | refine A_cf rfl ?_ | refine q_W ?_)
        exact X_ret rfl ⟨rfl, rfl⟩
    | 2, _ =>
      rw [hky rfl]
      repeat (first | refine q_Z ?_ | refine R_quiet rfl mixed (by kernel_rfl) ?_ | ((first | apply O_y rfl rfl rfl | apply Q_y rfl rfl rfl); (first | exact q_A | exact q_5 | exact q_B | (first | exact q_25 | exact q_26 | exact q_20))) | refine q_d ?_ | refine q_a ?_ | refine q_b ?_ | refine q_c ?_ | refine A_ct rfl ?_ | refine A_cf rfl ?_ | refine q_W ?_)
      exact X_ret rfl ⟨rfl, rfl⟩
  · rw [if_pos hx]
    refine ACall_of tabOk Try.func30 rfl Try.ntmps30 (congrArg Array.toList Try.results30) (by kernel_rfl) rfl ?_
    repeat (first | refine q_Z ?_ | refine R_quiet rfl mixed (by kernel_rfl) ?_ | ((first | apply O_y rfl rfl rfl | apply Q_y rfl rfl rfl); (first | exact q_A | exact q_5 | exact q_B)) | refine q_d ?_ | refine q_a ?_ | refine q_b ?_ | refine q_c ?_ | refine A_ct rfl ?_ | refine A_cf rfl ?_ | refine q_W ?_)
    refine A_loop (fun k : Nat => [(3, addrA 0), (6, .d (.sl [uD x, uD y] 2)), (7, intA 2), (8, intA (k : Int))]) (fun _ => []) (fun k => k = 0) (fun k => 2 - k) 0 rfl (Wk_sel ⟨rfl, rfl, rfl, rfl, trivial⟩ trivial) ?_
    rintro k rfl
    try dsimp only
    repeat (first | refine q_Z ?_ | refine R_quiet rfl mixed (by kernel_rfl) ?_ | ((first | apply O_y rfl rfl rfl | apply Q_y rfl rfl rfl); (first | exact q_A | exact q_5 | exact q_B | (first | exact q_25 | exact q_26 | exact q_20))) | refine q_d ?_ | refine q_a ?_ | refine q_b ?_ | refine q_c ?_ | refine A_ct rfl ?_ | refine A_cf rfl ?_ | refine q_W ?_)
    exact X_ret rfl ⟨rfl, rfl⟩
theorem ordId_A (a : Adv) : ACall Try.prog 29 ([advA a] ++ []) [] (Just (addrA (idn a))) := by
  show ACall _ _ [advA a] _ _
  have h1 := orAddr_A a.orig a.pid
  refine ACall_of tabOk Try.func29 rfl Try.ntmps29 (congrArg Array.toList Try.results29) (by kernel_rfl) rfl ?_
  repeat (first | refine q_Z ?_ | refine R_quiet rfl mixed (by kernel_rfl) ?_ | ((first | apply O_y rfl rfl rfl | apply Q_y rfl rfl rfl); (first | exact q_A | exact q_5 | exact q_B | (first | exact q_25 | exact q_26 | exact q_20))) | refine q_d ?_ | refine q_a ?_ | refine q_b ?_ | refine q_c ?_ | refine A_ct rfl ?_ | refine A_cf rfl ?_ | refine q_W ?_)
  refine O_weaken (Wk_freeze (id := 7) rfl) ?_
  repeat (first | refine q_Z ?_ | refine R_quiet rfl mixed (by kernel_rfl) ?_ | ((first | apply O_y rfl rfl rfl | apply Q_y rfl rfl rfl); (first | exact q_A | exact q_5 | exact q_B | (first | exact q_25 | exact q_26 | exact q_20))) | refine q_d ?_ | refine q_a ?_ | refine q_b ?_ | refine q_c ?_ | refine A_ct rfl ?_ | refine A_cf rfl ?_ | refine q_W ?_ | refine O_c rfl rfl rfl rfl rfl h1 (fun _ => rfl) ?_)
  exact X_ret rfl ⟨rfl, rfl⟩
theorem refId_A (a : Adv) : ACall Try.prog 18 [advA a] [] (Just (addrA (idn a))) := by
  unfold idn
  by_cases h : a.orig = 0
  · rw [if_neg (by simpa using h)]
    refine ACall_of tabOk Try.func18 rfl Try.ntmps18 (congrArg Array.toList Try.results18) (by kernel_rfl) rfl ?_
    repeat (first | refine q_Z ?_ | refine R_quiet rfl mixed (by kernel_rfl) ?_ | ((first | apply O_y rfl rfl rfl | apply Q_y rfl rfl rfl); (first | exact q_A | exact q_5 | exact q_B | (first | exact q_25 | exact q_26 | exact q_20))) | refine q_d ?_ | refine q_a ?_ | refine q_b ?_ | refine q_c ?_ | refine A_ct rfl ?_ | refine A_cf rfl ?_ | refine q_W ?_)
    exact X_ret rfl ⟨rfl, rfl⟩
  · rw [if_pos h]
    refine ACall_of tabOk Try.func18 rfl Try.ntmps18 (congrArg Array.toList Try.results18) (by kernel_rfl) rfl ?_
    repeat (first | refine q_Z ?_ | refine R_quiet rfl mixed (by kernel_rfl) ?_ | ((first | apply O_y rfl rfl rfl | apply Q_y rfl rfl rfl); (first | exact q_A | exact q_5 | exact q_B | (first | exact q_25 | exact q_26 | exact q_20))) | refine q_d ?_ | refine q_a ?_ | refine q_b ?_ | refine q_c ?_ | refine A_ct rfl ?_ | refine A_cf rfl ?_ | refine q_W ?_)
    exact X_ret rfl ⟨rfl, rfl⟩
section
variable {P : Program} {nt : Nat} {Q : Post} {e : Env} {h : Heap} {ops : Array Oper} {o : Oper} {rest : List Oper} {T : List Nat} {fuel i : Nat} {listed : Array Bool}
theorem T_cFn {f : FuncId} {x : Operand} {caps : List AVal} {args : Array Operand} {ats : Array TypeId} {cs : List AVal} {d : Nat} {c : AVal} (hi : ops[i]? = some o) (hw : awant ops e o = some true) (hdst : o.dst = some d) (hd : Nat.blt d nt = true) (ho : o.op = .call { callee := .value x, args := args, argTypes := ats }) (hf : aev e x = some (.fn f caps)) (hx : aevs e args.toList = some cs)
    (H : ACall P f (cs ++ caps) [] (fun c' h' => c' = c ∧ h' = [])) (hc : ∀ j, c.has j = false) (HK : AAny P nt ops Q T fuel (listed.setIfInBounds i true) ((d, c) :: e) h) : AAt P nt ops Q T fuel listed i e h :=
  T_eff hi hw (E_callF (d := some d) ho hdst hf hx H hd hc) fun e' h' ⟨h1, h2⟩ => by subst h1 h2; exact HK
end
set_option maxHeartbeats 16000000 in
theorem orderOwn_A (a b : Adv) (x y : Int) (p q : Bool) (hp : decide (a.ses ≠ -1) = p) (hq : decide (b.ses ≠ -1) = q) (hs : a.ses = -1 ∨ b.ses = -1) : ACall Try.prog 17 [advA a, advA b, intA x, intA y] [] (Just (intA (bInt p - bInt q))) := by
  have bf := boolean_A false
  have bt := boolean_A true
  by_cases h1 : a.ses = -1
  · have e1 : p = false := by rw [← hp]; simp [h1]
    subst e1
    by_cases h2 : b.ses = -1
    · have e2 : q = false := by rw [← hq]; simp [h2]
      subst e2
      clear hp hq hs
      refine ACall_of tabOk Try.func17 rfl Try.ntmps17 (congrArg Array.toList Try.results17) (by kernel_rfl) rfl ?_
      repeat (first | refine q_Z ?_ | refine R_quiet rfl mixed (by kernel_rfl) ?_ | ((first | apply O_y rfl rfl rfl | apply Q_y rfl rfl rfl); (first | exact q_A | exact q_5 | exact q_B | (first | exact Y_sub rfl rfl rfl rfl | (first | exact q_25 | exact q_26 | exact q_20)))) | refine q_d ?_ | refine q_a ?_ | refine q_b ?_ | refine q_c ?_ | refine A_ct rfl ?_ | refine A_cf rfl ?_ | refine q_W ?_ | (first | refine Q_c rfl rfl rfl rfl rfl bf rfl (fun _ _ _ => val_mk _ _ _ _ _ rfl rfl) ?_ | refine Q_c rfl rfl rfl rfl rfl bt rfl (fun _ _ _ => val_mk _ _ _ _ _ rfl rfl) ?_))
      exact X_ret rfl ⟨rfl, rfl⟩
    · have e2 : q = true := by rw [← hq]; simp [h2]
      subst e2
      clear hp hq hs
      refine ACall_of tabOk Try.func17 rfl Try.ntmps17 (congrArg Array.toList Try.results17) (by kernel_rfl) rfl ?_
      repeat (first | refine q_Z ?_ | refine R_quiet rfl mixed (by kernel_rfl) ?_ | ((first | apply O_y rfl rfl rfl | apply Q_y rfl rfl rfl); (first | exact q_A | exact q_5 | exact q_B | (first | exact Y_sub rfl rfl rfl rfl | (first | exact q_25 | exact q_26 | exact q_20)))) | refine q_d ?_ | refine q_a ?_ | refine q_b ?_ | refine q_c ?_ | refine A_ct rfl ?_ | refine A_cf rfl ?_ | refine q_W ?_ | (first | refine Q_c rfl rfl rfl rfl rfl bf rfl (fun _ _ _ => val_mk _ _ _ _ _ rfl rfl) ?_ | refine Q_c rfl rfl rfl rfl rfl bt rfl (fun _ _ _ => val_mk _ _ _ _ _ rfl rfl) ?_))
      exact X_ret rfl ⟨rfl, rfl⟩
  · have e1 : p = true := by rw [← hp]; simp [h1]
    subst e1
    have h2 : b.ses = -1 := by omega
    have e2 : q = false := by rw [← hq]; simp [h2]
    subst e2
    clear hp hq hs
    refine ACall_of tabOk Try.func17 rfl Try.ntmps17 (congrArg Array.toList Try.results17) (by kernel_rfl) rfl ?_
    repeat (first | refine q_Z ?_ | refine R_quiet rfl mixed (by kernel_rfl) ?_ | ((first | apply O_y rfl rfl rfl | apply Q_y rfl rfl rfl); (first | exact q_A | exact q_5 | exact q_B | (first | exact Y_sub rfl rfl rfl rfl | (first | exact q_25 | exact q_26 | exact q_20)))) | refine q_d ?_ | refine q_a ?_ | refine q_b ?_ | refine q_c ?_ | refine A_ct rfl ?_ | refine A_cf rfl ?_ | refine q_W ?_ | (first | refine Q_c rfl rfl rfl rfl rfl bf rfl (fun _ _ _ => val_mk _ _ _ _ _ rfl rfl) ?_ | refine Q_c rfl rfl rfl rfl rfl bt rfl (fun _ _ _ => val_mk _ _ _ _ _ rfl rfl) ?_))
    exact X_ret rfl ⟨rfl, rfl⟩
set_option maxHeartbeats 16000000 in
theorem orderOth_A (a b : Adv) (x y : Int) (h1 : a.ses ≠ -1) (h2 : b.ses ≠ -1) : ACall Try.prog 17 [advA a, advA b, intA x, intA y] [] (Just (intA (firstI (ordL a b x y)))) := by
  have c1 := cmpInt_A b.pref a.pref
  have c2' := cmpInt_A (a.path.length : Int) (b.path.length : Int)
  have c3 := cmpInt_A a.met b.met
  have c4a := boolean_A b.ext
  have c4b := boolean_A a.ext
  have c5 := cmpInt_A x y
  have c6a := ordId_A a
  have c6b := ordId_A b
  have c6 := cmpAddr_A (idn a) (idn b)
  have c7 := cmpInt_A (a.clus.length : Int) (b.clus.length : Int)
  have c8 := cmpAddr_A a.peer b.peer
  have c9 := cmpInt_A a.ses b.ses
  have hr : ∀ p q : Bool, -9223372036854775808 ≤ bInt p - bInt q ∧ bInt p - bInt q ≤ 9223372036854775807 := by decide
  have hrr := hr b.ext a.ext
  unfold ordL
  obtain ⟨q1, e1⟩ : ∃ q, c2 b.pref a.pref = q := ⟨_, rfl⟩
  obtain ⟨q2, e2⟩ : ∃ q, c2 a.path.length b.path.length = q := ⟨_, rfl⟩
  obtain ⟨q3, e3⟩ : ∃ q, c2 a.met b.met = q := ⟨_, rfl⟩
  obtain ⟨q4a, e4a⟩ : ∃ q, bInt b.ext = q := ⟨_, rfl⟩
  obtain ⟨q4b, e4b⟩ : ∃ q, bInt a.ext = q := ⟨_, rfl⟩
  obtain ⟨q5, e5⟩ : ∃ q, c2 x y = q := ⟨_, rfl⟩
  obtain ⟨q6, e6⟩ : ∃ q, c2 (idn a) (idn b) = q := ⟨_, rfl⟩
  obtain ⟨q7, e7⟩ : ∃ q, c2 a.clus.length b.clus.length = q := ⟨_, rfl⟩
  obtain ⟨q8, e8⟩ : ∃ q, c2 a.peer b.peer = q := ⟨_, rfl⟩
  obtain ⟨q9, e9⟩ : ∃ q, c2 a.ses b.ses = q := ⟨_, rfl⟩
  obtain ⟨q4, e4⟩ : ∃ q, q4a - q4b = q := ⟨_, rfl⟩
  rw [e4a, e4b, e4] at hrr
  have hsub : IntKind.i64.wrap (q4a - q4b) = q4 := by rw [e4]; exact wrap_i64 ⟨by omega, by omega⟩
  rw [e1, e2, e3, e4a, e4b, e4, e5, e6, e7, e8, e9]
  rw [e1] at c1
  rw [e2] at c2'
  rw [e3] at c3
  rw [e4a] at c4a
  rw [e4b] at c4b
  rw [e5] at c5
  rw [e6] at c6
  rw [e7] at c7
  rw [e8] at c8
  rw [e9] at c9
  have cf := bgpFirst_A [q1, q2, q3, q4, q5, q6, q7, q8, q9] (by simp)
  clear e1 e2 e3 e4a e4b e4 e5 e6 e7 e8 e9 hr hrr
  refine ACall_of tabOk Try.func17 rfl Try.ntmps17 (congrArg Array.toList Try.results17) (by kernel_rfl) rfl ?_
  repeat (first | refine q_Z ?_ | ((first | apply O_y rfl rfl rfl | apply Q_y rfl rfl rfl); (first | exact q_A | exact q_5 | exact q_B | (first | exact q_25 | exact q_26 | exact q_20))) | refine q_d ?_ | refine q_a ?_ | refine q_b ?_ | refine q_c ?_ | refine A_ct rfl ?_ | refine A_cf rfl ?_ | refine q_W ?_)
  refine N_begin [] mixed ?_
  -- BEGIN region 4
  apply q_P 0 rfl (by kernel_rfl) rfl rfl rfl
  exact q_8
  apply q_P 1 rfl (by kernel_rfl) rfl rfl rfl
  exact q_7
  apply q_P 2 rfl (by kernel_rfl) rfl rfl rfl
  exact q_8
  apply q_P 3 rfl (by kernel_rfl) rfl rfl rfl
  exact q_7
  apply q_P 5 rfl (by kernel_rfl) rfl rfl rfl
  exact q_8
  apply q_P 6 rfl (by kernel_rfl) rfl rfl rfl
  exact q_7
  apply q_P 7 rfl (by kernel_rfl) rfl rfl rfl
  exact q_6
  apply q_P 8 rfl (by kernel_rfl) rfl rfl rfl
  exact q_8
  apply q_P 9 rfl (by kernel_rfl) rfl rfl rfl
  exact q_7
  apply q_P 10 rfl (by kernel_rfl) rfl rfl rfl
  exact q_6
  apply q_P 12 rfl (by kernel_rfl) rfl rfl rfl
  exact q_8
  apply q_P 13 rfl (by kernel_rfl) rfl rfl rfl
  exact q_7
  apply q_P 14 rfl (by kernel_rfl) rfl rfl rfl
  exact q_8
  apply q_P 15 rfl (by kernel_rfl) rfl rfl rfl
  exact q_7
  apply q_P 17 rfl (by kernel_rfl) rfl rfl rfl
  exact q_8
  apply q_P 18 rfl (by kernel_rfl) rfl rfl rfl
  exact q_7
  apply q_P 20 rfl (by kernel_rfl) rfl rfl rfl
  exact q_8
  apply q_P 21 rfl (by kernel_rfl) rfl rfl rfl
  exact q_7
  apply q_P 24 rfl (by kernel_rfl) rfl rfl rfl
  exact q_1
  apply q_P 25 rfl (by kernel_rfl) rfl rfl rfl
  exact q_1
  apply q_P 27 rfl (by kernel_rfl) rfl rfl rfl
  exact q_1
  apply q_P 28 rfl (by kernel_rfl) rfl rfl rfl
  exact q_7
  apply q_P 30 rfl (by kernel_rfl) rfl rfl rfl
  exact q_1
  apply q_P 31 rfl (by kernel_rfl) rfl rfl rfl
  exact q_7
  apply q_P 34 rfl (by kernel_rfl) rfl rfl rfl
  exact q_8
  apply q_P 35 rfl (by kernel_rfl) rfl rfl rfl
  exact q_7
  apply q_P 36 rfl (by kernel_rfl) rfl rfl rfl
  exact q_6
  apply q_P 37 rfl (by kernel_rfl) rfl rfl rfl
  exact q_8
  apply q_P 38 rfl (by kernel_rfl) rfl rfl rfl
  exact q_7
  apply q_P 39 rfl (by kernel_rfl) rfl rfl rfl
  exact q_6
  apply q_P 41 rfl (by kernel_rfl) rfl rfl rfl
  exact q_8
  apply q_P 42 rfl (by kernel_rfl) rfl rfl rfl
  exact q_7
  apply q_P 43 rfl (by kernel_rfl) rfl rfl rfl
  exact q_8
  apply q_P 44 rfl (by kernel_rfl) rfl rfl rfl
  exact q_7
  apply q_P 46 rfl (by kernel_rfl) rfl rfl rfl
  exact q_8
  apply q_P 47 rfl (by kernel_rfl) rfl rfl rfl
  exact q_7
  apply q_P 48 rfl (by kernel_rfl) rfl rfl rfl
  exact q_8
  apply q_P 49 rfl (by kernel_rfl) rfl rfl rfl
  exact q_7
  refine N_one (j := 4) (by kernel_rfl) ?_
  refine T_call rfl rfl rfl rfl rfl rfl c1 (fun _ => rfl) ?_
  refine N_one (j := 11) (by kernel_rfl) ?_
  refine T_call rfl rfl rfl rfl rfl rfl c2' (fun _ => rfl) ?_
  refine N_one (j := 16) (by kernel_rfl) ?_
  refine T_call rfl rfl rfl rfl rfl rfl c3 (fun _ => rfl) ?_
  refine N_one (j := 19) (by kernel_rfl) ?_
  refine T_call rfl rfl rfl rfl rfl rfl c4a (fun _ => rfl) ?_
  refine N_one (j := 22) (by kernel_rfl) ?_
  refine T_call rfl rfl rfl rfl rfl rfl c4b (fun _ => rfl) ?_
  apply q_P 23 rfl (by kernel_rfl) rfl rfl rfl
  exact Y_sub rfl rfl rfl hsub
  refine N_one (j := 26) (by kernel_rfl) ?_
  refine T_call rfl rfl rfl rfl rfl rfl c5 (fun _ => rfl) ?_
  refine N_one (j := 29) (by kernel_rfl) ?_
  refine T_cFn rfl rfl rfl rfl rfl rfl rfl c6a (fun _ => rfl) ?_
  refine N_one (j := 32) (by kernel_rfl) ?_
  refine T_cFn rfl rfl rfl rfl rfl rfl rfl c6b (fun _ => rfl) ?_
  refine N_one (j := 33) (by kernel_rfl) ?_
  refine T_call rfl rfl rfl rfl rfl rfl c6 (fun _ => rfl) ?_
  refine N_one (j := 40) (by kernel_rfl) ?_
  refine T_call rfl rfl rfl rfl rfl rfl c7 (fun _ => rfl) ?_
  refine N_one (j := 45) (by kernel_rfl) ?_
  refine T_call rfl rfl rfl rfl rfl rfl c8 (fun _ => rfl) ?_
  refine N_one (j := 50) (by kernel_rfl) ?_
  refine T_call rfl rfl rfl rfl rfl rfl c9 (fun _ => rfl) ?_
  refine N_one (j := 51) (by kernel_rfl) ?_
  refine T_slice (xs := [intA q1, intA q2, intA q3, intA q4, intA q5, intA q6, intA q7, intA q8, intA q9]) (ds := [iD q1, iD q2, iD q3, iD q4, iD q5, iD q6, iD q7, iD q8, iD q9]) tabOk rfl rfl rfl rfl rfl rfl rfl rfl rfl rfl (by kernel_rfl) (by kernel_rfl) ?_
  refine N_weakenS (Wk_freezeS (id := 78) rfl) ?_
  refine N_one (j := 52) (by kernel_rfl) ?_
  refine T_call rfl rfl rfl rfl rfl rfl cf (fun _ => rfl) ?_
  apply q_P 53 rfl (by kernel_rfl) rfl rfl rfl
  exact q_2
  refine N_done (by kernel_rfl) ?_
  repeat (first | refine q_Z ?_ | refine R_quiet rfl mixed (by kernel_rfl) ?_ | ((first | apply O_y rfl rfl rfl | apply Q_y rfl rfl rfl); (first | exact q_A | exact q_5 | exact q_B | (first | exact q_25 | exact q_26 | exact q_20))) | refine q_d ?_ | refine q_a ?_ | refine q_b ?_ | refine q_c ?_ | refine A_ct rfl ?_ | refine A_cf rfl ?_ | refine q_W ?_)
  exact X_ret rfl ⟨rfl, rfl⟩
  -- END region 4
theorem order_A (a b : Adv) (x y : Int) : ACall Try.prog 17 [advA a, advA b, intA x, intA y] [] (Just (intA (ordT a b x y))) := by
  unfold ordT
  by_cases hs : a.ses = -1 ∨ b.ses = -1
  · rw [if_pos hs]; exact orderOwn_A a b x y _ _ rfl rfl hs
  · rw [if_neg hs]; exact orderOth_A a b x y (by omega) (by omega)
theorem better_A (a b : Adv) (x y : Int) : ACall Try.prog 7 [advA a, advA b, intA x, intA y] [] (Just (boolA (decide (ordT a b x y < 0)))) := by
  have ho := order_A a b x y
  obtain ⟨q, hq⟩ : ∃ q, ordT a b x y = q := ⟨_, rfl⟩
  rw [hq] at ho ⊢
  refine ACall_of tabOk Try.func7 rfl Try.ntmps7 (congrArg Array.toList Try.results7) (by kernel_rfl) rfl ?_
  repeat (first | refine q_Z ?_ | refine R_quiet rfl mixed (by kernel_rfl) ?_ | ((first | apply O_y rfl rfl rfl | apply Q_y rfl rfl rfl); (first | exact q_A | exact q_5 | exact q_B | (first | exact q_25 | exact q_26 | exact q_20))) | refine q_d ?_ | refine q_a ?_ | refine q_b ?_ | refine q_c ?_ | refine A_ct rfl ?_ | refine A_cf rfl ?_ | refine q_W ?_ | (first | refine O_c rfl rfl rfl rfl rfl ho (fun _ => rfl) ?_ | refine Q_c rfl rfl rfl rfl rfl ho rfl (fun _ _ _ => val_mk _ _ _ _ _ rfl rfl) ?_))
  exact X_ret rfl ⟨rfl, rfl⟩
end Go.Proofs.Ytblgdfcijkaimaa.Ab

/-
  Texts of a proof, one behind the other (part 13).
-/
import Derived.Sort.AssemblyPlain
import Derived.Test.YtpnhkkejcnicoaaGreatRo3
import Derived.Test.YtpnhkkejcnicoaaGreatRo4
import Derived.Test.YtpnhkkejcnicoaaGreatRo6
import Derived.Test.YtpnhkkejcnicoaaGreatRo11
set_option linter.unusedVariables false
set_option linter.unusedSimpArgs false
namespace Go.Proofs.YtpnhkkejcnicoaaGreat.Ab
set_option linter.unusedVariables false
set_option maxRecDepth 100000
open Go.RowKit Go.Lib Go.Sort
section
variable {P : Program} {nt : Nat} {Q : Post} {e : Env} {h : Heap} {ops : Array Oper} {o : Oper} {T : List Nat} {tab : TTab} {fuel i : Nat} {listed : Array Bool} {rest : List Oper}
theorem T_storee {t : TypeId} {x y : Operand} {id off s el k n : Nat} {cs ds : List Dat} {xs : List AVal} {c : AVal} (TO : TabOk P tab) (hi : ops[i]? = some o) (hw : awant ops e o = some true) (hdst : o.dst = none) (ho : o.op = .store t x y)
    (hx : aev e x = some (.eptr id off)) (hb : look h id = some (.row el k n cs)) (hy : aev e y = some c) (hcs : cellsA c = some xs) (hds : datsA xs = some ds) (hs : tsize tab t = some s) (hl : Nat.beq xs.length s = true)
    (hT : T.contains id = true) (hle : off + s ≤ cs.length) (h0 : 0 < n)
    (HK : AAny P nt ops Q T fuel (listed.setIfInBounds i true) e ((id, .row el k n (setW cs off ds)) :: h)) : AAt P nt ops Q T fuel listed i e h := by
  obtain ⟨te, h1, rfl⟩ := tsize_spec hs
  exact T_eff hi hw (E_store_eptr TO ho hdst h1 hx hb hy hcs (datsA_spec hds) (Nat.eq_of_beq_eq_true hl) hle h0 (by rfl) hT) fun e' h' ⟨h1, h2⟩ => by subst h1 h2; exact HK
theorem Wk_swapE {a b : Nat} {x y : AVal} (hne : Nat.beq a b = false) : AWkS nt ((a, x) :: (b, y) :: e) h ((b, y) :: (a, x) :: e) h := fun Pm F w0 pin ι ac w R =>
  ⟨ι, fun _ _ h => h, R.heap, fun t c ht => R.env t c (by
    rw [← ht]
    simp only [look]
    by_cases hb : Nat.beq b t = true
    · have : Nat.beq a t = false := beq_no fun he => of_beq_no hne (he.trans (Nat.eq_of_beq_eq_true hb).symm)
      rw [hb, this]; rfl
    · rw [Bool.eq_false_iff.2 hb]
      cases Nat.beq a t <;> rfl), R.defers, R.size⟩
theorem N_twoL {j k dj dk : Nat} {oj ok : Oper} {cj ck : AVal} {l2 : Array Bool} (hr : Region.ready .any ops listed = [j, k]) (hr1 : Region.ready .any ops (listed.setIfInBounds j true) = [k]) (hr2 : Region.ready .any ops (listed.setIfInBounds k true) = [j])
    (hl1 : (listed.setIfInBounds j true).setIfInBounds k true = l2) (hl2 : (listed.setIfInBounds k true).setIfInBounds j true = l2)
    (hj : ops[j]? = some oj) (hk : ops[k]? = some ok) (hdj : oj.dst = some dj) (hdk : ok.dst = some dk) (hbj : Nat.blt dj nt = true) (hbk : Nat.blt dk nt = true) (hne : Nat.beq dj dk = false)
    (hwj : awant ops e oj = some true) (hwk : awant ops e ok = some true) (hwj' : awant ops ((dk, ck) :: e) oj = some true) (hwk' : awant ops ((dj, cj) :: e) ok = some true)
    (hyj : AYield P [] e h oj cj) (hyk : AYield P [] e h ok ck) (hyj' : AYield P [] ((dk, ck) :: e) h oj cj) (hyk' : AYield P [] ((dj, cj) :: e) h ok ck)
    (H : AAny P nt ops Q T fuel l2 ((dk, ck) :: (dj, cj) :: e) h) : AAny P nt ops Q T (fuel + 2) listed e h :=
  N_two hr (T_yield hj hwj hdj hbj hyj (N_one hr1 (T_yield hk hwk' hdk hbk hyk' (N_listed hl1 H))))
    (T_yield hk hwk hdk hbk hyk (N_one hr2 (T_yield hj hwj' hdj hbj hyj' (N_listed hl2 (N_weakenS (Wk_swapE hne) H)))))
theorem R_addN {t u : TypeId} {x y : Operand} {a b : Nat} (ho : o.op = .binOp .add t x y u) (hx : aev e x = some (.d (.sc (.int .i64 (a : Int))))) (hy : aev e y = some (.d (.sc (.int .i64 (b : Int))))) (hr : a + b ≤ 9223372036854775807 := by omega) :
    AYield P T e h o (.d (.sc (.int .i64 ((a + b : Nat) : Int)))) := Y_add ho hx hy ((wrap_i64 ⟨by omega, by omega⟩).trans (by omega))
theorem R_subN {t u : TypeId} {x y : Operand} {a b : Nat} (ho : o.op = .binOp .sub t x y u) (hx : aev e x = some (.d (.sc (.int .i64 (a : Int))))) (hy : aev e y = some (.d (.sc (.int .i64 (b : Int))))) (hr : b ≤ a := by omega) (hm : a ≤ 9223372036854775807 := by omega) :
    AYield P T e h o (.d (.sc (.int .i64 ((a - b : Nat) : Int)))) := Y_sub ho hx hy ((wrap_i64 ⟨by omega, by omega⟩).trans (by omega))
theorem R_mulN {t u : TypeId} {x y : Operand} {a b : Nat} (ho : o.op = .binOp .mul t x y u) (hx : aev e x = some (.d (.sc (.int .i64 (a : Int))))) (hy : aev e y = some (.d (.sc (.int .i64 (b : Int))))) (hr : a * b ≤ 9223372036854775807 := by omega) :
    AYield P T e h o (.d (.sc (.int .i64 ((a * b : Nat) : Int)))) := Y_mul ho hx hy (by rw [← Int.natCast_mul]; exact wrap_i64 ⟨by omega, by omega⟩)
theorem R_quoN {t u : TypeId} {x y : Operand} {a b : Nat} (ho : o.op = .binOp .quo t x y u) (hx : aev e x = some (.d (.sc (.int .i64 (a : Int))))) (hy : aev e y = some (.d (.sc (.int .i64 (b : Int))))) (hb : b ≠ 0 := by decide) (hm : a ≤ 9223372036854775807 := by omega) :
    AYield P T e h o (.d (.sc (.int .i64 ((a / b : Nat) : Int)))) := yield_of _ fun w F ι ac E =>
  ⟨.int .i64 ((a / b : Nat) : Int), sc_rel rfl, fun w' => by
    simp only [execOp, ho, (sc_of (aev_rel E hx)).1, (sc_of (aev_rel E hy)).1]
    have h1 : ((a : Int)).tdiv (b : Int) = ((a / b : Nat) : Int) := by rw [Int.ofNat_tdiv]
    have h3 := Nat.div_le_self a b
    obtain ⟨q, hq⟩ : ∃ q, a / b = q := ⟨_, rfl⟩
    rw [hq] at h1 h3 ⊢
    have h2 : IntKind.i64.wrap (q : Int) = (q : Int) := wrap_i64 ⟨by omega, by omega⟩
    have h4 : ((b : Int)) ≠ 0 := by omega
    simp [eqGuard, binOp, Op.intDiv, h4, h1, h2, hb]⟩
theorem R_mulx {t u : TypeId} {x y : Operand} {a : Nat} {m : Int} (k : Nat) (ho : o.op = .binOp .mul t x y u) (hx : aev e x = some (.d (.sc (.int .i64 m)))) (hm : m = (k : Int)) (hy : aev e y = some (.d (.sc (.int .i64 (a : Int))))) (hr : k * a ≤ 9223372036854775807 := by omega) :
    AYield P T e h o (.d (.sc (.int .i64 ((k * a : Nat) : Int)))) := by subst hm; exact R_mulN ho hx hy hr
theorem R_muly {t u : TypeId} {x y : Operand} {a : Nat} {m : Int} (k : Nat) (ho : o.op = .binOp .mul t x y u) (hx : aev e x = some (.d (.sc (.int .i64 (a : Int))))) (hy : aev e y = some (.d (.sc (.int .i64 m)))) (hm : m = (k : Int)) (hr : a * k ≤ 9223372036854775807 := by omega) :
    AYield P T e h o (.d (.sc (.int .i64 ((a * k : Nat) : Int)))) := by subst hm; exact R_mulN ho hx hy hr
theorem R_quoy {t u : TypeId} {x y : Operand} {a : Nat} {m : Int} (k : Nat) (ho : o.op = .binOp .quo t x y u) (hx : aev e x = some (.d (.sc (.int .i64 (a : Int))))) (hy : aev e y = some (.d (.sc (.int .i64 m)))) (hm : m = (k : Int)) (hb : k ≠ 0 := by decide) (hr : a ≤ 9223372036854775807 := by omega) :
    AYield P T e h o (.d (.sc (.int .i64 ((a / k : Nat) : Int)))) := by subst hm; exact R_quoN ho hx hy hb hr
theorem look_oneU {a b p i : Nat} (h : look [(a, b)] p = some i) : p = a ∧ i = b := by
  simp only [look] at h
  cases hb : Nat.beq a p
  · rw [hb] at h; cases h
  · rw [hb] at h
    exact ⟨(Nat.eq_of_beq_eq_true hb).symm, (Option.some.inj h).symm⟩
theorem O_cU {f : FuncId} {args : Array Operand} {ats : Array TypeId} {cs cs0 : List AVal} {c : AVal} {d el k n n1 : Nat} {ds ds1 : List Dat} (i : Nat) (H : ACall P f cs [(1000, .row el k n ds)] (fun c' h' => c' = c ∧ h' = [(1000, .row el k n1 ds1)]))
    (hok : cs.all (okV [(1000, i)]) = true) (hb : look h i = some (.row el k n ds)) (hw : awant ops e o = some true) (hdst : o.dst = some d) (hd : Nat.blt d nt = true) (ho : o.op = .call { callee := .value (.func f), args := args, argTypes := ats }) (hx : aevs e args.toList = some cs0) (hcs : cs.map (renV [(1000, i)]) = cs0)
    (HK : AOps P nt ops Q rest ((d, renV [(1000, i)] c) :: e) ((i, .row el k n1 ds1) :: h)) : AOps P nt ops Q (o :: rest) e h := by
  refine O_cP [(1000, i)] (fun p p' i h1 h2 => by rw [(look_oneU h1).1, (look_oneU h2).1]) (fun p i h1 => by rw [(look_oneU h1).1]; exact ⟨Nat.le_refl _, rfl, rfl⟩) H (fun c hc => List.all_eq_true.1 hok c hc) ⟨⟨i, _, rfl, hb, rfl, trivial⟩, trivial⟩ hw hdst hd ho hx hcs ?_
  exact HK
def XQ (nt id : Nat) (Ex : Env) (Hx : Heap) (Q : Post) : Post
  | .exit j, e, h => cond (Nat.beq j id) (AWk nt e h Ex Hx) (Q (.exit j) e h)
  | .normal, _, _ => False
  | x, e, h => Q x e h
theorem np_xq {id : Nat} {Ex : Env} {Hx : Heap} (h : NoPanic Q) : NoPanic (XQ nt id Ex Hx Q) := fun ch e h' => h ch e h'
instance {nt id : Nat} {Ex : Env} {Hx : Heap} {Q : Post} [I : NPc Q] : NPc (XQ nt id Ex Hx Q) := ⟨np_xq I.np⟩
theorem np_rf : NoPanic RF := fun _ _ _ h => h
theorem stopL {z : Bool} {id : Nat} {c r : Code} (H : AWp z P nt (.block id (.loop c)) (AThen (AWp z P nt r Q) Q) e h) : AWp z P nt (.block id (.loop c)) (AThen (AWp z P nt r Q) Q) e h := H
theorem A_loopS {z : Bool} {id : Nat} {c r : Code} {α : Type} (E : α → Env) (H : α → Heap) (Φ : α → Prop) (μ : α → Nat) (x0 : α) (Ex : Env) (Hx : Heap) (h0 : Φ x0) (hk : AWk nt e h (E x0) (H x0))
    (round : ∀ x, Φ x → AWp z P nt c (AThen (fun e' h' => ∃ y, Φ y ∧ μ y < μ x ∧ AWk nt e' h' (E y) (H y)) (XQ nt id Ex Hx Q)) (E x) (H x)) (hr : AWp z P nt r Q Ex Hx) : AWp z P nt (.block id (.loop c)) (AThen (AWp z P nt r Q) Q) e h := by
  refine A_block (A_loop E H Φ μ x0 h0 hk fun x hx => (round x hx).mono fun y e' h' hy => ?_)
  cases y with
  | normal => exact hy
  | exit j =>
    have hy : cond (Nat.beq j id) (AWk nt e' h' Ex Hx) (Q (.exit j) e' h') := hy
    show cond (Nat.beq j id) (AWp z P nt r Q e' h') (Q (.exit j) e' h')
    cases hb : Nat.beq j id
    · rw [hb] at hy; exact hy
    · rw [hb] at hy; exact A_weaken hy hr
  | ret => exact hy
  | goto l => exact hy
  | panic ch => exact hy
  | outgrown => exact hy
end
theorem intE {a b : Int} (h : a = b) : some (AVal.d (.sc (.int .i64 a))) = some (AVal.d (.sc (.int .i64 b))) := by rw [h]
abbrev natA (n : Nat) : AVal := .d (.sc (.int .i64 (n : Int)))
def uvA (z : Int) : AVal := .d (.sc (.int .u32 z))
def uC (z : Int) : Dat := .sc (.int .u32 z)
def uR (d : Array Int) : ABlk := .row 41 1 d.size (d.toList.map uC)
theorem u_len (d : Array Int) : (d.toList.map uC).length = d.size := by simp
theorem u_win {d : Array Int} {i : Nat} (hi : i < d.size) : win (d.toList.map uC) (i * 1) 1 = [uC d[i]!] := by
  rw [Nat.mul_one, win, List.map_drop.symm, List.map_take.symm, List.drop_eq_getElem_cons (by simpa using hi)]
  simp [hi]
theorem u_set {d : Array Int} {i : Nat} (hi : i < d.size) (z : Int) : setW (d.toList.map uC) (i * 1) [uC z] = (d.setIfInBounds i z).toList.map uC := by
  rw [Nat.mul_one]
  refine List.ext_getElem? fun j => ?_
  rw [setW_get (by simp; omega)]
  simp only [List.length_cons, List.length_nil, Array.toList_setIfInBounds, List.map_set, List.getElem?_set]
  by_cases hj : i = j
  · subst hj; simp [hi]
  · rw [if_neg (by omega), if_neg hj]
theorem u_swp {d : Array Int} {i j : Nat} (hi : i < d.size) (hj : j < d.size) : setW (setW (d.toList.map uC) (i * 1) [uC d[j]!]) (j * 1) [uC d[i]!] = (swp d i j).toList.map uC := by
  rw [u_set hi, u_set (by simpa using hj)]; rfl
theorem u_swpR {d : Array Int} {i j : Nat} {h : Heap} (hi : i < d.size) (hj : j < d.size) {id : Nat} (hl : look h id = some (.row 41 1 d.size (setW (setW (d.toList.map uC) (i * 1) [uC d[j]!]) (j * 1) [uC d[i]!]))) : look h id = some (uR (swp d i j)) := by
  rw [hl, u_swp hi hj, uR, size_swp]
set_option linter.unusedSimpArgs false
attribute [local irreducible] AWp AOps AQ AYield AEff ACall AWk AAny AAt AThen AIn APost NoPanic
theorem isNaN_A (x : Int) : ACall Tryz.prog 139 [uvA x] [] (Just (boolA false)) := by
  refine ACall_of tabOk Tryz.func139 rfl Tryz.ntmps139 (congrArg Array.toList Tryz.results139) (by kernel_rfl) rfl ?_
  have hx : (x != x) = false := by simp
  repeat (first | refine q_Z ?_ | refine R_quiet rfl mixed (by kernel_rfl) ?_ | ((first | apply O_y rfl rfl rfl | apply Q_y rfl rfl rfl); (first | exact q_A | exact q_5 | exact q_B | (exact R_cmpF rfl rfl rfl rfl hx))) | refine q_d ?_ | refine q_a ?_ | refine q_b ?_ | refine q_c ?_ | refine A_ct rfl ?_ | refine A_cf rfl ?_ | refine q_W ?_)
  exact X_ret rfl ⟨rfl, rfl⟩
theorem less_A (x y : Int) : ACall Tryz.prog 132 [uvA x, uvA y] [] (Just (boolA (ltInt x y))) := by
  refine ACall_of tabOk Tryz.func132 rfl Tryz.ntmps132 (congrArg Array.toList Tryz.results132) (by kernel_rfl) rfl ?_
  repeat (first | refine q_Z ?_ | refine R_quiet rfl mixed (by kernel_rfl) ?_ | ((first | apply O_y rfl rfl rfl | apply Q_y rfl rfl rfl); (first | exact q_A | exact q_5 | exact q_B)) | refine q_d ?_ | refine q_a ?_ | refine q_b ?_ | refine q_c ?_ | refine A_ct rfl ?_ | refine A_cf rfl ?_ | refine q_W ?_ | refine O_c rfl rfl rfl rfl rfl (isNaN_A x) (fun _ => rfl) ?_)
  exact X_ret rfl ⟨rfl, rfl⟩
end Go.Proofs.YtpnhkkejcnicoaaGreat.Ab

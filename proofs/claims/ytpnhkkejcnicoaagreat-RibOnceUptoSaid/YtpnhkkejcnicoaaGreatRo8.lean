/-
  Texts of a proof, one behind the other (part 9).
-/
import Derived.Test.YtpnhkkejcnicoaaGreatRo6
import Derived.Test.YtpnhkkejcnicoaaGreatRo7
set_option linter.unusedVariables false
set_option linter.unusedSimpArgs false
namespace Go.Proofs.YtpnhkkejcnicoaaGreat
set_option linter.unusedVariables false
open Go.RowKit Go.Lib
def fitsLE (e : LEnt) (p : Pfx) : Bool := withinB p e.p && decide (e.ge ≤ p.b) && decide (p.b ≤ e.le)
def permitsL (l : PLst) (p : Pfx) : Bool := match l.es.find? (fun e => fitsLE e p) with
  | some e => e.ok
  | none => false
def fitsM (m : Mem) (com : List Int) : Bool := m.all.all fun c => com.any fun d => d == c
def allowsL (l : CLst) (com : List Int) : Bool := match l.ms.find? (fun m => fitsM m com) with
  | some m => m.ok
  | none => false
namespace Ab
set_option maxRecDepth 100000
section
variable {P : Program} {T : List Nat} {e : Env} {h : Heap} {o : Oper}
theorem R_max {x y : Operand} {ats : Array TypeId} {k : IntKind} {a b r : Int} (ho : o.op = .call { callee := .builtin .max, args := #[x, y], argTypes := ats }) (hx : aev e x = some (.d (.sc (.int k a)))) (hy : aev e y = some (.d (.sc (.int k b)))) (hr : (if a < b then b else a) = r) :
    AYield P T e h o (.d (.sc (.int k r))) := yield_of _ fun w F ι ac E => by
  refine ⟨.int k r, sc_rel rfl, fun w' => ?_⟩
  have h1 := (sc_of (aev_rel E hx)).1
  have h2 := (sc_of (aev_rel E hy)).1
  subst hr
  simp [execOp, ho, resolve, invoke, builtin, h1, h2, Builtin.max_, Builtin.max2]
end
set_option linter.unusedSimpArgs false
attribute [local irreducible] AWp AOps AQ AYield AEff ACall AWk AAny AAt AThen AIn APost NoPanic
set_option maxHeartbeats 4000000 in
theorem lfits_A (e : LEnt) (p : Pfx) (he : e.p.ok) (hp : p.ok) : ACall Tryz.prog 114 [aggD (lentD e), pfxA p] [] (Just (boolA (fitsLE e p))) := by
  have hw := within_A p e.p hp he
  obtain ⟨ok, ⟨ea, eb⟩, ge, le⟩ := e
  obtain ⟨pa, pb⟩ := p
  obtain ⟨b, hb⟩ : ∃ b, withinB ⟨pa, pb⟩ ⟨ea, eb⟩ = b := ⟨_, rfl⟩
  unfold fitsLE
  dsimp only at hw ⊢
  rw [hb] at hw ⊢
  refine ACall_of tabOk Tryz.func114 rfl Tryz.ntmps114 (congrArg Array.toList Tryz.results114) (by kernel_rfl) rfl ?_
  cases b with
  | false =>
    repeat (first | refine q_Z ?_ | ((first | apply O_y rfl rfl rfl | apply Q_y rfl rfl rfl); (first | exact q_A | exact q_5 | exact q_B)) | refine q_d ?_ | refine q_a ?_ | refine q_b ?_ | refine q_c ?_ | refine A_ct rfl ?_ | refine A_cf rfl ?_ | refine q_W ?_ | refine O_c rfl rfl rfl rfl rfl hw (fun _ => rfl) ?_)
    exact X_ret rfl ⟨rfl, rfl⟩
  | true =>
    by_cases h1 : ge ≤ pb
    · by_cases h2 : pb ≤ le
      · rw [decide_eq_true h1, decide_eq_true h2]
        repeat (first | refine q_Z ?_ | ((first | apply O_y rfl rfl rfl | apply Q_y rfl rfl rfl); (first | exact q_A | exact q_5 | exact q_B)) | refine q_d ?_ | refine q_a ?_ | refine q_b ?_ | refine q_c ?_ | refine A_ct rfl ?_ | refine A_cf rfl ?_ | refine q_W ?_ | refine O_c rfl rfl rfl rfl rfl hw (fun _ => rfl) ?_)
        exact X_ret rfl ⟨rfl, rfl⟩
      · rw [decide_eq_true h1, decide_eq_false h2]
        repeat (first | refine q_Z ?_ | ((first | apply O_y rfl rfl rfl | apply Q_y rfl rfl rfl); (first | exact q_A | exact q_5 | exact q_B)) | refine q_d ?_ | refine q_a ?_ | refine q_b ?_ | refine q_c ?_ | refine A_ct rfl ?_ | refine A_cf rfl ?_ | refine q_W ?_ | refine O_c rfl rfl rfl rfl rfl hw (fun _ => rfl) ?_)
        exact X_ret rfl ⟨rfl, rfl⟩
    · rw [decide_eq_false h1]
      repeat (first | refine q_Z ?_ | ((first | apply O_y rfl rfl rfl | apply Q_y rfl rfl rfl); (first | exact q_A | exact q_5 | exact q_B)) | refine q_d ?_ | refine q_a ?_ | refine q_b ?_ | refine q_c ?_ | refine A_ct rfl ?_ | refine A_cf rfl ?_ | refine q_W ?_ | refine O_c rfl rfl rfl rfl rfl hw (fun _ => rfl) ?_)
      exact X_ret rfl ⟨rfl, rfl⟩
theorem entry1_A (e : LEnt) (p : Pfx) (he : e.p.ok) (hp : p.ok) : ACall Tryz.prog 113 ([aggD (lentD e)] ++ [.iptr (pfxD p) 0]) [] (Just (boolA (fitsLE e p))) := by
  have hf := lfits_A e p he hp
  refine ACall_of tabOk Tryz.func113 rfl Tryz.ntmps113 (congrArg Array.toList Tryz.results113) (by kernel_rfl) rfl ?_
  repeat (first | refine q_Z ?_ | ((first | apply O_y rfl rfl rfl | apply Q_y rfl rfl rfl); (first | exact q_A | exact q_5 | exact q_B)) | refine q_d ?_ | refine q_a ?_ | refine q_b ?_ | refine q_c ?_ | refine A_ct rfl ?_ | refine A_cf rfl ?_ | refine q_W ?_ | refine O_c rfl rfl rfl rfl rfl hf (fun _ => rfl) ?_)
  exact X_ret rfl ⟨rfl, rfl⟩
theorem firstE_A (L : List LEnt) (f : FuncId) (caps : List AVal) (p : LEnt → Bool) (hf : ∀ x ∈ L, ACall Tryz.prog f ([aggD (lentD x)] ++ caps) [] (Just (boolA (p x)))) (hn : L.length ≤ 1000000000) :
    ACall Tryz.prog 112 [.d (.sl (L.flatMap lentD) L.length), .fn f caps] [] (Just (.tup [intA (if idxOf p L < 0 then 0 else idxOf p L), boolA (decide (0 ≤ idxOf p L))])) := by
  have hi := idxEnt_A L f caps p hf hn
  obtain ⟨i, hii⟩ : ∃ i, idxOf p L = i := ⟨_, rfl⟩
  rw [hii] at hi ⊢
  refine ACall_of tabOk Tryz.func112 rfl Tryz.ntmps112 (congrArg Array.toList Tryz.results112) (by kernel_rfl) rfl ?_
  by_cases h0 : 0 ≤ i
  · rw [decide_eq_true h0]
    repeat (first | refine q_Z ?_ | ((first | apply O_y rfl rfl rfl | apply Q_y rfl rfl rfl); (first | exact q_A | exact q_5 | exact q_B | (exact R_max rfl rfl rfl rfl))) | refine q_d ?_ | refine q_a ?_ | refine q_b ?_ | refine q_c ?_ | refine A_ct rfl ?_ | refine A_cf rfl ?_ | refine q_W ?_ | refine O_c rfl rfl rfl rfl rfl hi (fun _ => rfl) ?_)
    exact X_ret rfl ⟨rfl, rfl⟩
  · rw [decide_eq_false h0]
    repeat (first | refine q_Z ?_ | ((first | apply O_y rfl rfl rfl | apply Q_y rfl rfl rfl); (first | exact q_A | exact q_5 | exact q_B | (exact R_max rfl rfl rfl rfl))) | refine q_d ?_ | refine q_a ?_ | refine q_b ?_ | refine q_c ?_ | refine A_ct rfl ?_ | refine A_cf rfl ?_ | refine q_W ?_ | refine O_c rfl rfl rfl rfl rfl hi (fun _ => rfl) ?_)
    exact X_ret rfl ⟨rfl, rfl⟩
theorem firstM_A (L : List Mem) (f : FuncId) (caps : List AVal) (p : Mem → Bool) (hf : ∀ x ∈ L, ACall Tryz.prog f ([aggD (memD x)] ++ caps) [] (Just (boolA (p x)))) (hn : L.length ≤ 1000000000) :
    ACall Tryz.prog 115 [.d (.sl (L.flatMap memD) L.length), .fn f caps] [] (Just (.tup [intA (if idxOf p L < 0 then 0 else idxOf p L), boolA (decide (0 ≤ idxOf p L))])) := by
  have hi := idxMem_A L f caps p hf hn
  obtain ⟨i, hii⟩ : ∃ i, idxOf p L = i := ⟨_, rfl⟩
  rw [hii] at hi ⊢
  refine ACall_of tabOk Tryz.func115 rfl Tryz.ntmps115 (congrArg Array.toList Tryz.results115) (by kernel_rfl) rfl ?_
  by_cases h0 : 0 ≤ i
  · rw [decide_eq_true h0]
    repeat (first | refine q_Z ?_ | ((first | apply O_y rfl rfl rfl | apply Q_y rfl rfl rfl); (first | exact q_A | exact q_5 | exact q_B | (exact R_max rfl rfl rfl rfl))) | refine q_d ?_ | refine q_a ?_ | refine q_b ?_ | refine q_c ?_ | refine A_ct rfl ?_ | refine A_cf rfl ?_ | refine q_W ?_ | refine O_c rfl rfl rfl rfl rfl hi (fun _ => rfl) ?_)
    exact X_ret rfl ⟨rfl, rfl⟩
  · rw [decide_eq_false h0]
    repeat (first | refine q_Z ?_ | ((first | apply O_y rfl rfl rfl | apply Q_y rfl rfl rfl); (first | exact q_A | exact q_5 | exact q_B | (exact R_max rfl rfl rfl rfl))) | refine q_d ?_ | refine q_a ?_ | refine q_b ?_ | refine q_c ?_ | refine A_ct rfl ?_ | refine A_cf rfl ?_ | refine q_W ?_ | refine O_c rfl rfl rfl rfl rfl hi (fun _ => rfl) ?_)
    exact X_ret rfl ⟨rfl, rfl⟩
theorem entry_A (l : PLst) (p : Pfx) (hl : ∀ e ∈ l.es, e.p.ok) (hp : p.ok) (hn : l.es.length ≤ 1000000000) :
    ACall Tryz.prog 102 [aggD (plstD l), pfxA p] [] (Just (.tup [intA (if idxOf (fun e => fitsLE e p) l.es < 0 then 0 else idxOf (fun e => fitsLE e p) l.es), boolA (decide (0 ≤ idxOf (fun e => fitsLE e p) l.es))])) := by
  have hf := firstE_A l.es 113 [.iptr (pfxD p) 0] (fun e => fitsLE e p) (fun e he => entry1_A e p (hl e he) hp) hn
  obtain ⟨nm, es⟩ := l
  refine ACall_of tabOk Tryz.func102 rfl Tryz.ntmps102 (congrArg Array.toList Tryz.results102) (by kernel_rfl) rfl ?_
  refine A_seq ?_
  refine R_list ?_
  refine q_d ?_
  refine q_d ?_
  refine O_weaken (Wk_freezeV (id := 3) (ds := pfxD p) rfl rfl) ?_
  repeat (first | refine q_Z ?_ | ((first | apply O_y rfl rfl rfl | apply Q_y rfl rfl rfl); (first | exact q_A | exact q_5 | exact q_B | (exact Y_makeFunc rfl rfl))) | refine q_d ?_ | refine q_a ?_ | refine q_b ?_ | refine q_c ?_ | refine A_ct rfl ?_ | refine A_cf rfl ?_ | refine q_W ?_ | refine O_c rfl rfl rfl rfl rfl hf (fun _ => rfl) ?_)
  exact X_ret rfl ⟨rfl, rfl⟩
set_option maxHeartbeats 4000000 in
theorem permits_A (l : PLst) (p : Pfx) (hl : ∀ e ∈ l.es, e.p.ok) (hp : p.ok) (hn : l.es.length ≤ 1000000000) : ACall Tryz.prog 75 [aggD (plstD l), pfxA p] [] (Just (boolA (permitsL l p))) := by
  have he := entry_A l p hl hp hn
  unfold permitsL
  have hfi := idxOf_find (fun e => fitsLE e p) l.es
  obtain ⟨nm, es⟩ := l
  dsimp only at he hfi ⊢
  rcases hfi with ⟨h1, h2⟩ | ⟨k, hk, h1, h2⟩
  · rw [h1] at he
    rw [h2]
    have he : ACall Tryz.prog 102 [aggD (plstD ⟨nm, es⟩), pfxA p] [] (Just (.tup [intA 0, boolA false])) := he
    refine ACall_of tabOk Tryz.func75 rfl Tryz.ntmps75 (congrArg Array.toList Tryz.results75) (by kernel_rfl) rfl ?_
    repeat (first | refine q_Z ?_ | ((first | apply O_y rfl rfl rfl | apply Q_y rfl rfl rfl); (first | exact q_A | exact q_5 | exact q_B)) | refine q_d ?_ | refine q_a ?_ | refine q_b ?_ | refine q_c ?_ | refine A_ct rfl ?_ | refine A_cf rfl ?_ | refine q_W ?_ | refine O_c rfl rfl rfl rfl rfl he (fun _ => rfl) ?_)
    exact X_ret rfl ⟨rfl, rfl⟩
  · rw [h1, if_neg (by omega), decide_eq_true (show (0 : Int) ≤ (k : Int) by omega)] at he
    rw [h2]
    have hw : win (es.flatMap lentD) (k * 5 + 0) 1 = [.sc (.bool es[k].ok)] := win_flat lentD_len es k 0 1 hk (by decide)
    refine ACall_of tabOk Tryz.func75 rfl Tryz.ntmps75 (congrArg Array.toList Tryz.results75) (by kernel_rfl) rfl ?_
    repeat (first | refine q_Z ?_ | ((first | apply O_y rfl rfl rfl | apply Q_y rfl rfl rfl); (first | exact q_A | exact R_loadi tabOk rfl rfl rfl rfl (by first | exact hw | rfl) rfl rfl | exact q_B | (exact R_index (j := k) tabOk rfl rfl rfl rfl rfl rfl hk))) | refine q_d ?_ | refine q_a ?_ | refine q_b ?_ | refine q_c ?_ | refine A_ct rfl ?_ | refine A_cf rfl ?_ | refine q_W ?_ | refine O_c rfl rfl rfl rfl rfl he (fun _ => rfl) ?_)
    exact X_ret rfl ⟨rfl, rfl⟩
end Ab
end Go.Proofs.YtpnhkkejcnicoaaGreat

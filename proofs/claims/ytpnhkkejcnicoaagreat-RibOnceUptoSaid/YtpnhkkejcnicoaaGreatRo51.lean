/-
  Texts of a proof, one behind the other (part 52).
-/
import Derived.Test.YtpnhkkejcnicoaaGreatRo6
import Derived.Test.YtpnhkkejcnicoaaGreatRo36
import Derived.Test.YtpnhkkejcnicoaaGreatRo50
set_option linter.unusedVariables false
set_option linter.unusedSimpArgs false
namespace Go.Proofs.YtpnhkkejcnicoaaGreat.Ab
set_option linter.unusedVariables false
set_option maxRecDepth 100000
open Go.RowKit Go.Lib
section
variable {P : Program} {nt : Nat} {Q : Post} {e : Env} {h : Heap} {ops : Array Oper} {o : Oper} {rest : List Oper} {T : List Nat}
theorem R_fieldv {t f off ft : Nat} {te te' : TE} {fs : List (Nat × TypeId)} {x : Operand} {cs : List AVal} {c : AVal} {tab : TTab} (TO : TabOk P tab) (ho : o.op = .field t x f) (ht : tlook tab t = some te) (hs : te.sh = .st fs) (hf : fs[f]? = some (off, ft)) (hft : tlook tab ft = some te') (h1 : te'.agg = false)
    (hx : aev e x = some (.agg cs)) (hc : cs[off]? = some c) : AYield P T e h o c := yield_of _ fun w F ι a E => by
  have hv := aev_rel E hx
  generalize hu : a.eval x = u at hv
  cases hv with
  | agg _ C hl hh =>
    obtain ⟨FF, hu2, hF⟩ := (TO t te ht).struct hs
    rw [← hF, List.getElem?_map] at hf
    have hlt : off < C.size := by rw [hl]; exact (List.getElem?_eq_some_iff.1 hc).1
    have hg : C[off]? = some C[off] := Array.getElem?_eq_getElem hlt
    cases hfi : FF[f]? with
    | none => simp [hfi] at hf
    | some fl =>
      simp [hfi] at hf
      obtain ⟨rfl, rfl⟩ := hf
      refine ⟨C[fl.offset], hh _ c _ hc hg, fun w' => ?_⟩
      simp [execOp, ho, hu, Instr.field, run_underlying hu2, hfi, asAgg, part, (TO _ te' hft).run_agg, h1, hg]
theorem O_cR {f : FuncId} {args : Array Operand} {ats : Array TypeId} {cs : List AVal} {d : Nat} {Rc : AVal → Prop} (hw : awant ops e o = some true) (hdst : o.dst = some d) (hd : Nat.blt d nt = true) (ho : o.op = .call { callee := .value (.func f), args := args, argTypes := ats }) (hx : aevs e args.toList = some cs)
    (H : ACall P f cs [] (fun c' h' => Rc c' ∧ h' = [])) (hc : ∀ c j, Rc c → c.has j = false) (HK : ∀ c, Rc c → AOps P nt ops Q rest ((d, c) :: e) h) : AOps P nt ops Q (o :: rest) e h :=
  O_eff (T := []) hw (E_callR (d := some d) ho hdst hx H hd hc) fun e' h' ⟨c, h1, h2, h3⟩ => by subst h2 h3; exact HK c h1
end
set_option linter.unusedSimpArgs false
attribute [local irreducible] AWp AOps AQ AYield AEff ACall AWk AAny AAt AThen AIn APost NoPanic
theorem hasExt_A (l : List Rte) (hn : l.length ≤ 1000000) : ACall Tryz.prog 25 [rtesA l, .fn 26 []] [] (Just (boolA (l.any (·.x)))) := by
  have hi := indexDisc_A l hn
  refine ACall_of tabOk Tryz.func25 rfl Tryz.ntmps25 (congrArg Array.toList Tryz.results25) (by kernel_rfl) rfl ?_
  repeat (first | refine q_Z ?_ | ((first | apply O_y rfl rfl rfl | apply Q_y rfl rfl rfl); (first | exact q_A | exact q_5 | exact q_B)) | refine q_d ?_ | refine q_a ?_ | refine q_b ?_ | refine q_c ?_ | refine A_ct rfl ?_ | refine A_cf rfl ?_ | refine q_W ?_)
  refine O_cR rfl rfl rfl rfl rfl hi (fun c j ⟨i, h, _⟩ => by rw [h]; rfl) fun c hc => ?_
  obtain ⟨i, rfl, hi2⟩ := hc
  have he : decide (i ≥ 0) = l.any (·.x) := by
    rw [Bool.eq_iff_iff, decide_eq_true_eq]
    exact hi2
  repeat (first | refine q_Z ?_ | ((first | apply O_y rfl rfl rfl | apply Q_y rfl rfl rfl); (first | exact q_A | exact q_5 | exact q_B | (exact q_13))) | refine q_d ?_ | refine q_a ?_ | refine q_b ?_ | refine q_c ?_ | refine A_ct rfl ?_ | refine A_cf rfl ?_ | refine q_W ?_)
  exact X_ret rfl ⟨by rw [← he]; rfl, rfl⟩
def ownB (r : Rte) : Bool := !decide (r.f = 7) && !decide (r.f = 8)
def usN (l : List Rte) (x : Int) : Int × Bool := match longL (l.filter ownB) x with
  | [] => (0, false)
  | r :: t => if (r :: t).any (·.x) then (0, false) else ((minR r t).m, true)
set_option maxHeartbeats 8000000 in
theorem usable_A (l : List Rte) (hok : ∀ r ∈ l, okR r) (hn : l.length ≤ 1000000) (x : Int) (x0 : 0 ≤ x) (x1 : x < 4294967296) : ACall Tryz.prog 11 [rtesA l, .d (.sc (.int .u32 x))] [] (Just (.tup [intA (usN l x).1, boolA (usN l x).2])) := by
  refine ACall_of tabOk Tryz.func11 rfl Tryz.ntmps11 (congrArg Array.toList Tryz.results11) (by kernel_rfl) rfl ?_
  repeat (first | refine q_Z ?_ | ((first | apply O_y rfl rfl rfl | apply Q_y rfl rfl rfl); (first | exact q_A | exact q_5 | exact q_B)) | refine q_d ?_ | refine q_a ?_ | refine q_b ?_ | refine q_c ?_ | refine A_ct rfl ?_ | refine A_cf rfl ?_ | refine q_W ?_)
  refine A_weaken (Wk_nil 52 9 (t := 6) (id := 6) rfl rfl) ?_
  refine A_loop (fun k : Nat => [(1, .d (.sc (.int .u32 x))), (6, .row 6), (10, rtesA l), (11, intA (l.length : Int)), (12, intA (k : Int))]) (fun k => [(6, rteB ((l.take k).filter ownB))]) (fun k => k ≤ l.length) (fun k => l.length - k) 0 (Nat.zero_le _) (Wk_sel ⟨rfl, rfl, rfl, rfl, rfl, trivial⟩ ⟨rfl, trivial⟩) ?_
  intro k hk
  try dsimp only
  have hfl : ((l.take k).filter ownB).length ≤ l.length := Nat.le_trans (List.length_filter_le _ _) (by rw [List.length_take]; omega)
  by_cases hlt : k < l.length
  · have hst := filter_takeR ownB l k hlt
    have hw := win_at l k hlt
    by_cases h7 : l[k].f = 7
    · rw [show ownB l[k] = false by simp [ownB, h7]] at hst
      repeat (first | refine q_Z ?_ | ((first | apply O_y rfl rfl rfl | apply Q_y rfl rfl rfl); (first | exact q_A | exact R_loadi tabOk rfl rfl rfl rfl (by first | exact win_flat0 rteD_len l k _ hlt (by decide) | exact win_flat rteD_len l k _ _ hlt (by decide) | exact win_flat2 rteD_len l k _ _ _ hlt (by decide) | rfl) rfl rfl | exact q_B)) | refine q_d ?_ | refine q_a ?_ | refine q_b ?_ | refine q_c ?_ | refine A_ct rfl ?_ | refine A_cf rfl ?_ | refine q_W ?_)
      exact ⟨k + 1, by omega, by omega, Wk_sel ⟨rfl, rfl, rfl, rfl, rfl, trivial⟩ ⟨row_eq (by rw [hst]; simp) (by rw [hst]; simp) rfl, trivial⟩⟩
    · by_cases h8 : l[k].f = 8
      · rw [show ownB l[k] = false by simp [ownB, h8]] at hst
        repeat (first | refine q_Z ?_ | ((first | apply O_y rfl rfl rfl | apply Q_y rfl rfl rfl); (first | exact q_A | exact R_loadi tabOk rfl rfl rfl rfl (by first | exact win_flat0 rteD_len l k _ hlt (by decide) | exact win_flat rteD_len l k _ _ hlt (by decide) | exact win_flat2 rteD_len l k _ _ _ hlt (by decide) | rfl) rfl rfl | exact q_B)) | refine q_d ?_ | refine q_a ?_ | refine q_b ?_ | refine q_c ?_ | refine A_ct rfl ?_ | refine A_cf rfl ?_ | refine q_W ?_)
        exact ⟨k + 1, by omega, by omega, Wk_sel ⟨rfl, rfl, rfl, rfl, rfl, trivial⟩ ⟨row_eq (by rw [hst]; simp) (by rw [hst]; simp) rfl, trivial⟩⟩
      · rw [show ownB l[k] = true by simp [ownB, h7, h8], if_pos rfl] at hst
        repeat (first | refine q_Z ?_ | ((first | apply O_y rfl rfl rfl | apply Q_y rfl rfl rfl); (first | exact q_A | exact R_loadi tabOk rfl rfl rfl rfl (by first | exact win_flat0 rteD_len l k _ hlt (by decide) | exact win_flat rteD_len l k _ _ hlt (by decide) | exact win_flat2 rteD_len l k _ _ _ hlt (by decide) | rfl) rfl rfl | exact q_B)) | refine q_d ?_ | refine q_a ?_ | refine q_b ?_ | refine q_c ?_ | refine A_ct rfl ?_ | refine A_cf rfl ?_ | refine q_W ?_ | (first | refine O_appR tabOk rfl rfl rfl rfl rfl rfl rfl rfl rfl rfl rfl (by first | exact Src.row rfl | exact Src.dat _ _ | exact Src.nil) rfl (by omega) ?_ | refine O_appN tabOk rfl rfl rfl rfl rfl rfl rfl rfl rfl rfl (by first | exact Src.row rfl | exact Src.dat _ _ | exact Src.nil) rfl (by omega) ?_))
        exact ⟨k + 1, by omega, by omega, Wk_sel ⟨rfl, rfl, rfl, rfl, rfl, trivial⟩ ⟨row_eq (by rw [hst]; simp) (by rw [hst]; simp [rteD]) rfl, trivial⟩⟩
  · have hkk : k = l.length := by omega
    subst hkk
    rw [List.take_length]
    have hfl2 : (l.filter ownB).length ≤ l.length := List.length_filter_le _ _
    have hlo := ribLongest_A (l.filter ownB) (fun r hr => hok r (List.mem_filter.1 hr).1) (by omega) x x0 x1
    have hll : (longL (l.filter ownB) x).length ≤ 1000000 := Nat.le_trans (sortU_len _) (Nat.le_trans (List.length_filter_le _ _) (by omega))
    unfold usN
    repeat (first | refine q_Z ?_ | ((first | apply O_y rfl rfl rfl | apply Q_y rfl rfl rfl); (first | exact q_A | exact q_5 | exact q_B)) | refine q_d ?_ | refine q_a ?_ | refine q_b ?_ | refine q_c ?_ | refine A_ct rfl ?_ | refine A_cf rfl ?_ | refine q_W ?_)
    refine O_weaken (Wk_freeze (id := 6) rfl) ?_
    refine O_cRow rfl rfl rfl rfl rfl hlo rfl ?_
    repeat (first | refine q_Z ?_ | ((first | apply O_y rfl rfl rfl | apply Q_y rfl rfl rfl); (first | exact q_A | exact q_5 | exact q_B)) | refine q_d ?_ | refine q_a ?_ | refine q_b ?_ | refine q_c ?_ | refine A_ct rfl ?_ | refine A_cf rfl ?_ | refine q_W ?_)
    refine O_weaken (Wk_freeze (id := 5) rfl) ?_
    generalize longL (l.filter ownB) x = b at *
    cases b with
    | nil =>
      repeat (first | refine q_Z ?_ | ((first | apply O_y rfl rfl rfl | apply Q_y rfl rfl rfl); (first | exact q_A | exact q_5 | exact q_B)) | refine q_d ?_ | refine q_a ?_ | refine q_b ?_ | refine q_c ?_ | refine A_ct rfl ?_ | refine A_cf rfl ?_ | refine q_W ?_)
      exact X_ret rfl ⟨rfl, rfl⟩
    | cons r t =>
      have hco := hasExt_A (r :: t) hll
      have hmi := minFunc_A r t (by simp at hll; omega)
      have hlen : 0 < (r :: t).length := by simp
      dsimp only
      cases hx : (r :: t).any (·.x) with
      | true =>
        rw [hx] at hco
        rw [if_pos rfl]
        repeat (first | refine q_Z ?_ | ((first | apply O_y rfl rfl rfl | apply Q_y rfl rfl rfl); (first | exact q_A | exact q_5 | exact q_B)) | refine q_d ?_ | refine q_a ?_ | refine q_b ?_ | refine q_c ?_ | refine A_ct rfl ?_ | refine A_cf rfl ?_ | refine q_W ?_ | refine O_c rfl rfl rfl rfl rfl hco (fun _ => rfl) ?_)
        exact X_ret rfl ⟨rfl, rfl⟩
      | false =>
        rw [hx] at hco
        rw [if_neg (by simp)]
        repeat (first | refine q_Z ?_ | ((first | apply O_y rfl rfl rfl | apply Q_y rfl rfl rfl); (first | exact q_A | exact q_5 | exact q_B | (exact R_fieldv tabOk rfl rfl rfl rfl rfl rfl rfl rfl))) | refine q_d ?_ | refine q_a ?_ | refine q_b ?_ | refine q_c ?_ | refine A_ct rfl ?_ | refine A_cf rfl ?_ | refine q_W ?_ | (first | refine O_c rfl rfl rfl rfl rfl hco (fun _ => rfl) ?_ | refine O_c rfl rfl rfl rfl rfl hmi (fun _ => rfl) ?_))
        exact X_ret rfl ⟨rfl, rfl⟩
end Go.Proofs.YtpnhkkejcnicoaaGreat.Ab

namespace Go.Proofs.YtpnhkkejcnicoaaGreat.Ab
set_option linter.unusedVariables false
set_option maxRecDepth 100000
open Go.RowKit Go.Lib
set_option linter.unusedSimpArgs false
attribute [local irreducible] AWp AOps AQ AYield AEff ACall AWk AAny AAt AThen AIn APost NoPanic
def oneI (a b : Bool) : Int := if a then -1 else if b then 1 else 0
end Go.Proofs.YtpnhkkejcnicoaaGreat.Ab

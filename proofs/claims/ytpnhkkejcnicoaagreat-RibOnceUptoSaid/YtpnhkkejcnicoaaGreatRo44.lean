/-
  Texts of a proof, one behind the other (part 45).
-/
import Derived.Test.YtpnhkkejcnicoaaGreatRo4
import Derived.Test.YtpnhkkejcnicoaaGreatRo6
import Derived.Test.YtpnhkkejcnicoaaGreatRo32
import Derived.Test.YtpnhkkejcnicoaaGreatRo34
import Derived.Test.YtpnhkkejcnicoaaGreatRo37
import Derived.Test.YtpnhkkejcnicoaaGreatRo39
import Derived.Test.YtpnhkkejcnicoaaGreatRo41
import Derived.Test.YtpnhkkejcnicoaaGreatRo42
import Derived.Test.YtpnhkkejcnicoaaGreatRo43
set_option linter.unusedVariables false
set_option linter.unusedSimpArgs false
namespace Go.Proofs.YtpnhkkejcnicoaaGreat
set_option linter.unusedVariables false
theorem aput_none {κ ν : Type} [DecidableEq κ] {l : List (κ × ν)} {k : κ} {v : ν} (h : aget l k = none) : Go.Proofs.YtpnhkkejcnicoaaGreat.aput l k v = l ++ [(k, v)] := by
  unfold Go.Proofs.YtpnhkkejcnicoaaGreat.aput
  unfold aget at h
  cases hm : mget l k with
  | none => rfl
  | some x => rw [hm] at h; cases h
namespace Ab
set_option maxRecDepth 100000
open Go.RowKit Go.Lib
def tkA (x : Tkn) : AVal := aggD (tknD x)
abbrev tknsA (l : List Tkn) : AVal := .d (.sl (l.flatMap tknD) l.length)
abbrev rdssA (l : List Rds) : AVal := .d (.sl (l.flatMap rdsD) l.length)
def tkB (l : List (Pfx × Tkn)) : ABlk := .map (ents pfxA tkA l)
def lkB (l : List Pfx) : ABlk := .map (ents pfxA intA (lkM l))
def zTV : List Value := [.int .i64 0, .int .u32 0, .int .i64 0, .int .i64 0, .int .i64 0, .int .i64 0, .slice none 0 0, .slice none 0 0, .int .u32 0]
def zTA : AVal := .agg (zTV.map fun v => .d (.sc v))
theorem zTA_rel (w : World) (F : Nat → Prop) (ι : Nat → Option Value) : VRel w F ι zTA (.agg zTV.toArray) := val_mk _ _ _ _ _ rfl rfl
theorem zeroTkn (W : World) : (zeroValue 49).run Tryz.prog W = .ok (.agg zTV.toArray) W := by
  have h : tlook tab 49 = some _ := rfl
  obtain ⟨z, h1, h2, i, h3, h4, _⟩ := (tabOk _ _ h).zero W
  have h5 : (Tryz.prog.info? 49).bind (·.zero) = some (.agg zTV.toArray) := by kernel_rfl
  rw [h3] at h5
  simp only [Option.bind_some] at h5
  rw [h4] at h5
  cases h5
  exact h1
theorem zeroIntO (W : World) : (zeroValue 3).run Tryz.prog W = .ok (.int .i64 0) W := by
  have h : tlook tab 3 = some _ := rfl
  obtain ⟨z, h1, h2, i, h3, h4, _⟩ := (tabOk _ _ h).zero W
  have h5 : (Tryz.prog.info? 3).bind (·.zero) = some (.int .i64 0) := by kernel_rfl
  rw [h3] at h5
  simp only [Option.bind_some] at h5
  rw [h4] at h5
  cases h5
  exact h1
theorem kill_tk (id : Nat) (l : List (Pfx × Tkn)) : killB id (tkB l) = tkB l := by
  show ABlk.map ((l.map fun p => (pfxA p.1, tkA p.2)).map fun p => (killV id p.1, killV id p.2)) = _
  rw [List.map_map]; rfl
theorem kill_lk (id : Nat) (l : List Pfx) : killB id (lkB l) = lkB l := by
  show ABlk.map (((lkM l).map fun p => (pfxA p.1, intA p.2)).map fun p => (killV id p.1, killV id p.2)) = _
  rw [List.map_map]; rfl
theorem fz_tk (id : Nat) (ds : List Dat) (l : List (Pfx × Tkn)) : fzB id ds (tkB l) = tkB l := by
  show ABlk.map ((l.map fun p => (pfxA p.1, tkA p.2)).map fun p => (fzV id ds p.1, fzV id ds p.2)) = _
  rw [List.map_map]; rfl
theorem fz_lk (id : Nat) (ds : List Dat) (l : List Pfx) : fzB id ds (lkB l) = lkB l := by
  show ABlk.map (((lkM l).map fun p => (pfxA p.1, intA p.2)).map fun p => (fzV id ds p.1, fzV id ds p.2)) = _
  rw [List.map_map]; rfl
theorem kill_tkx (id r clk : Nat) (bs : List Nat) (l : List (Pfx × Tkn)) : killB id (.mapx r bs clk (ents pfxA tkA l)) = .mapx r bs clk (ents pfxA tkA l) := by
  show ABlk.mapx r bs clk ((l.map fun p => (pfxA p.1, tkA p.2)).map fun p => (killV id p.1, killV id p.2)) = _
  rw [List.map_map]; rfl
theorem ktx3 (i j k r clk : Nat) (bs : List Nat) (l : List (Pfx × Tkn)) : some (killB i (killB j (killB k (.mapx r bs clk (ents pfxA tkA l))))) = some (.mapx r bs clk (ents pfxA tkA l)) := by rw [kill_tkx, kill_tkx, kill_tkx]
theorem kt1 (i : Nat) (l : List (Pfx × Tkn)) : some (killB i (tkB l)) = some (tkB l) := by rw [kill_tk]
theorem kt2 (i j : Nat) (l : List (Pfx × Tkn)) : some (killB i (killB j (tkB l))) = some (tkB l) := by rw [kill_tk, kill_tk]
theorem kl1 (i : Nat) (l : List Pfx) : some (killB i (lkB l)) = some (lkB l) := by rw [kill_lk]
theorem kl2 (i j : Nat) (l : List Pfx) : some (killB i (killB j (lkB l))) = some (lkB l) := by rw [kill_lk, kill_lk]
theorem ktz (id : Nat) (ds : List Dat) (j k : Nat) (l : List (Pfx × Tkn)) : some (fzB id ds (killB j (killB k (tkB l)))) = some (tkB l) := by rw [kill_tk, kill_tk, fz_tk]
theorem ktz1 (id : Nat) (ds : List Dat) (j : Nat) (l : List (Pfx × Tkn)) : some (killB j (fzB id ds (tkB l))) = some (tkB l) := by rw [fz_tk, kill_tk]
theorem klz1 (id : Nat) (ds : List Dat) (j : Nat) (l : List Pfx) : some (killB j (fzB id ds (lkB l))) = some (lkB l) := by rw [fz_lk, kill_lk]
theorem lk_snoc (l : List Pfx) (p : Pfx) : some (ABlk.map (ents pfxA intA (lkM l ++ [(p, (1 : Int))]))) = some (lkB (l ++ [p])) := by unfold lkB; rw [lkM_snoc]
theorem tk_snoc (l : List (Pfx × Tkn)) (p : Pfx) (v : Tkn) (h : aget l p = none) : some (ABlk.map (ents pfxA tkA (Go.Proofs.YtpnhkkejcnicoaaGreat.aput l p v))) = some (tkB (l ++ [(p, v)])) := by rw [aput_none h]; rfl
theorem sbjZ_args {d : Dvc} {nm : List UInt8} (w : World) (F : Nat → Prop) (ι : Nat → Option Value) (us : Array Value) (H : ArgsRel w F ι [dvcA d, .d (sD nm), .agg sbjZ] us) : ArgsRel w F ι [dvcA d, .d (sD nm), aggD (sbjD zeroS)] us :=
  ⟨H.1, fun i c u h1 h2 => by
    match i, h1 with
    | 0, h1 => exact H.2 0 c u h1 h2
    | 1, h1 => exact H.2 1 c u h1 h2
    | 2, h1 => cases h1; exact see_nils w F ι u (H.2 2 _ u rfl h2)
    | i + 3, h1 => cases h1⟩
def seenO (bs js : List Nat) : Array Nat := (js.map fun j => bs.getD j 0).toArray
theorem seenO_push (bs js : List Nat) (j b : Nat) (hb : bs[j]? = some b) : (seenO bs js).push b = seenO bs (js ++ [j]) := by
  unfold seenO
  simp [hb]
theorem seenO_has (bs js : List Nat) (hp : bs.Pairwise fun a b => a < b) (hl : ∀ j ∈ js, j < bs.length) (j b : Nat) (hb : bs[j]? = some b) : (seenO bs js).contains b = true ↔ j ∈ js := by
  unfold seenO
  rw [Array.contains_iff_mem]
  simp only [List.mem_toArray, List.mem_map]
  have hjl := (List.getElem?_eq_some_iff.1 hb)
  constructor
  · rintro ⟨i, hi, hib⟩
    have hil := hl i hi
    rw [show bs.getD i 0 = bs[i] by simp [List.getElem?_eq_getElem hil]] at hib
    have hpw := List.pairwise_iff_getElem.1 hp
    rcases Nat.lt_trichotomy i j with h1 | h1 | h1
    · have := hpw i j hil hjl.1 h1; rw [hjl.2] at this; omega
    · rw [← h1]; exact hi
    · have := hpw j i hjl.1 hil h1; rw [hjl.2] at this; omega
  · intro hj
    exact ⟨j, hj, by simp [hb]⟩
theorem nodupO_len {js : List Nat} {n : Nat} (hn : js.Nodup) (hl : ∀ j ∈ js, j < n) : js.length ≤ n := by
  have := hn.length_le_of_subset (l₂ := List.range n) fun j hj => List.mem_range.2 (hl j hj)
  simpa using this
theorem look_oneO {a b p i : Nat} (h : look [(a, b)] p = some i) : p = a ∧ i = b := by
  by_cases hp : a = p
  · subst hp; rw [look_cons_same] at h; cases h; exact ⟨rfl, rfl⟩
  · rw [look_cons_ne _ _ hp] at h; cases h
theorem ACall.args {P : Program} {f : FuncId} {cs cs' : List AVal} {h : Heap} {R : AVal → Heap → Prop} (H : ACall P f cs h R) (hs : ∀ w F ι us, ArgsRel w F ι cs' us → ArgsRel w F ι cs us) : ACall P f cs' h R :=
  ⟨H.1, fun Pm F w0 pin ι us w a b => H.2 Pm F w0 pin ι us w a (hs w F ι us b)⟩
theorem A_cutO {P : Program} {nt : Nat} {Q : Post} {e : Env} {h : Heap} {z : Bool} {c y : Code} (E1 : Env) (H1 : Heap) (h1 : AWp z P nt c (AThen (fun e' h' => AWk nt e' h' E1 H1) RF) e h) (h2 : AWp z P nt y Q E1 H1) : AWp z P nt c (AThen (AWp z P nt y Q) Q) e h :=
  h1.mono fun ex e h hq => by
    cases ex with
    | normal => exact A_weaken hq h2
    | _ => exact False.elim hq
set_option linter.unusedSimpArgs false
attribute [local irreducible] AWp AOps AQ AYield AEff ACall AWk AAny AAt AThen AIn APost NoPanic
structure OkO (d : Dvc) (l : List Rds) (rs : List Rte) : Prop where
  ln : l.length ≤ 1000000
  rn : rs.length ≤ 1000000
  ok : ∀ r ∈ rs, okR r
  ap : ∀ s : Sbj, s.p.ok → s.path = [] → s.com = [] → OkA d s
theorem zero_okP : (⟨0, 0⟩ : Pfx).ok := by unfold Pfx.ok; decide
def ovE (d : Dvc) (l : List Rds) (R : List Rte) (ospf : Bool) (i : Nat) : Env := [(1, rdssA l), (2, rtesA R), (3, boolA ospf), (4, .iptr (dvcD d) 0), (15, .mp 903), (51, rdssA l), (52, natA l.length), (53, natA i)]
def ovF (d : Dvc) (l : List Rds) (R : List Rte) (ospf : Bool) (i : Nat) (x : Rds) (k : Nat) : Env := [(1, rdssA l), (2, rtesA R), (3, boolA ospf), (4, .iptr (dvcD d) 0), (15, .mp 903), (16, natA i), (17, .iptr (rdsD x) 0), (18, .mp 904), (51, rdssA l), (52, natA l.length), (53, natA i), (59, rtesA R), (60, natA R.length), (61, natA k)]
set_option maxHeartbeats 64000000 in
theorem rovr_A (d : Dvc) (l : List Rds) (rs : List Rte) (ospf : Bool) (hok : OkO d l rs) : ACall Tryz.prog 5 [dvcA d, rdssA l, rtesA rs, boolA ospf] [] (Just (.tup [tknsA (overR d l rs ospf).1, .d (iD (overR d l rs ospf).2)])) := by
  have hl := hok.ln
  have hrl := hok.rn
  refine ACall_of tabOk Tryz.func5 rfl Tryz.ntmps5 (congrArg Array.toList Tryz.results5) (by kernel_rfl) rfl ?_
  refine A_seq ?_
  refine R_list ?_
  refine q_d ?_
  refine O_weaken (Wk_freezeV (id := 4) (ds := dvcD d) rfl rfl) ?_
  repeat ((fail_if_success (refine stopL ?_)); first | refine q_Z ?_ | refine R_quiet rfl mixed (by kernel_rfl) ?_ | ((first | apply O_y rfl rfl rfl | apply Q_y rfl rfl rfl); (first | exact R_addN rfl rfl rfl | exact R_subN rfl rfl rfl | (first | exact q_A | exact q_5 | exact q_B))) | refine q_d ?_ | refine q_a ?_ | refine q_b ?_ | refine q_c ?_ | refine A_ct rfl ?_ | refine A_cf rfl ?_ | refine q_W ?_)
  try refine A_block ?_
  refine A_loop (fun k : Nat => [(1, rdssA l), (2, rtesA rs), (3, boolA ospf), (4, .iptr (dvcD d) 0), (8, .d (.sc (.slice none 0 0))), (9, .d (iD 0)), (30, rdssA l), (31, natA l.length), (32, natA k)]) (fun _ => []) (fun k => k ≤ l.length ∧ errR d (l.take k) = false) (fun k => l.length - k) 0 ⟨Nat.zero_le _, rfl⟩ (Wk_sel ⟨rfl, rfl, rfl, rfl, rfl, rfl, rfl, rfl, rfl, trivial⟩ trivial) ?_
  rintro k ⟨hk, he⟩
  try dsimp only
  by_cases hkl : k < l.length
  · have hw := win_flat0 rdsD_len l k 4 hkl (by decide)
    have hz := hok.ap zeroS zero_okP rfl rfl
    have ca := apply_A d l[k].pol zeroS hz
    have hnx : errR d (l.take (k + 1)) = (errR d (l.take k) || decide ((applyP d l[k].pol zeroS).2.2 ≠ 0)) := by
      unfold errR
      rw [List.take_succ_eq_append_getElem hkl, List.any_append]; simp
    have hall : (applyP d l[k].pol zeroS).2.2 ≠ 0 → errR d l = true := fun h => by
      unfold errR
      exact List.any_eq_true.2 ⟨l[k], List.getElem_mem hkl, decide_eq_true h⟩
    have h120 : (applyP d l[k].pol zeroS).2.2 = 0 ∨ (applyP d l[k].pol zeroS).2.2 ≠ 0 := Classical.em _
    rw [he, Bool.false_or] at hnx
    obtain ⟨x, hx⟩ : ∃ x, l[k] = x := ⟨_, rfl⟩
    rw [hx] at hw ca hnx hall h120
    have ca := ca.args (sbjZ_args (d := d) (nm := x.pol))
    obtain ⟨⟨A, ok, er⟩, hA⟩ : ∃ t, applyP d x.pol zeroS = t := ⟨_, rfl⟩
    rw [hA] at ca hnx hall h120
    dsimp only at ca hnx hall h120
    rcases h120 with h0 | h0
    · subst h0
      rw [decide_eq_false (by simp)] at hnx
      repeat ((fail_if_success (refine stopL ?_)); first | refine q_Z ?_ | refine R_quiet rfl mixed (by kernel_rfl) ?_ | ((first | apply O_y rfl rfl rfl | apply Q_y rfl rfl rfl); (first | exact R_addN rfl rfl rfl | exact R_subN rfl rfl rfl | (first | exact q_A | exact R_loadi tabOk rfl rfl rfl rfl hw rfl rfl | exact q_B | (first | exact q_5 | exact R_index (j := k) tabOk rfl rfl rfl rfl rfl rfl hkl)))) | refine q_d ?_ | refine q_a ?_ | refine q_b ?_ | refine q_c ?_ | refine A_ct rfl ?_ | refine A_cf rfl ?_ | refine q_W ?_ | refine O_c rfl rfl rfl rfl rfl ca (fun _ => rfl) ?_)
      exact ⟨k + 1, ⟨hkl, hnx⟩, by omega, Wk_sel ⟨rfl, rfl, rfl, rfl, rfl, rfl, rfl, rfl, rfl, trivial⟩ trivial⟩
    · have hov : overR d l rs ospf = ([], 120) := by unfold overR; rw [if_pos (hall h0)]
      rw [hov]
      repeat ((fail_if_success (refine stopL ?_)); first | refine q_Z ?_ | refine R_quiet rfl mixed (by kernel_rfl) ?_ | ((first | apply O_y rfl rfl rfl | apply Q_y rfl rfl rfl); (first | exact R_addN rfl rfl rfl | exact R_subN rfl rfl rfl | (first | exact q_A | exact R_loadi tabOk rfl rfl rfl rfl hw rfl rfl | exact q_B | (first | exact q_5 | exact R_index (j := k) tabOk rfl rfl rfl rfl rfl rfl hkl)))) | refine q_d ?_ | refine q_a ?_ | refine q_b ?_ | refine q_c ?_ | refine A_ct rfl ?_ | refine A_cf rfl ?_ | refine q_W ?_ | refine O_c rfl rfl rfl rfl rfl ca (fun _ => rfl) ?_)
      exact X_retW (Wk_see (t := 8) rfl see_nil) rfl (h2 := []) trivial ⟨rfl, rfl⟩
  obtain rfl : k = l.length := by omega
  rw [List.take_length] at he
  have hov : overR d l rs ospf = (takenL (outR d ospf (sortU ordR rs) l 0 []), 0) := by unfold overR; rw [if_neg (by rw [he]; simp)]
  rw [hov]
  have hso := sort_R rs (by omega)
  have hRm : ∀ r ∈ sortU ordR rs, okR r := fun r hr => hok.ok r ((sortU_mem _ _).1 hr)
  have hRl : (sortU ordR rs).length ≤ 1000000 := Nat.le_trans (sortU_len rs) hrl
  obtain ⟨R, hR⟩ : ∃ R, sortU ordR rs = R := ⟨_, rfl⟩
  rw [hR] at hso hRm hRl ⊢
  clear hov hR
  obtain ⟨FIN, hFIN⟩ : ∃ F, outR d ospf R l 0 [] = F := ⟨_, rfl⟩
  rw [hFIN]
  repeat ((fail_if_success (refine stopL ?_)); first | refine q_Z ?_ | refine R_quiet rfl mixed (by kernel_rfl) ?_ | ((first | apply O_y rfl rfl rfl | apply Q_y rfl rfl rfl); (first | exact R_addN rfl rfl rfl | exact R_subN rfl rfl rfl | (first | exact q_A | exact q_5 | exact q_B))) | refine q_d ?_ | refine q_a ?_ | refine q_b ?_ | refine q_c ?_ | refine A_ct rfl ?_ | refine A_cf rfl ?_ | refine q_W ?_ | first | (refine O_makeMap 903 rfl rfl rfl rfl rfl ?_) | (refine O_cRow rfl rfl rfl rfl rfl hso rfl ?_))
  refine A_weaken (Wk_freeze (id := 5) rfl) ?_
  try refine A_block ?_
  refine A_loop (fun x : Nat × List (Pfx × Tkn) => ovE d l R ospf x.1) (fun x => [(903, tkB x.2)]) (fun x => x.1 ≤ l.length ∧ Ents x.2 ∧ (∀ e ∈ x.2, ∃ r ∈ R, r.p = e.1) ∧ outR d ospf R (l.drop x.1) x.1 x.2 = FIN) (fun x => l.length - x.1) (0, []) ⟨Nat.zero_le _, ents_nil, by simp, hFIN⟩ (Wk_sel ⟨rfl, rfl, rfl, rfl, rfl, rfl, rfl, rfl, trivial⟩ ⟨rfl, trivial⟩) ?_
  rintro ⟨i, tk⟩ ⟨hi, hE, hM, hF⟩
  try dsimp only at hi hE hM hF ⊢
  by_cases hil : i < l.length
  · have hw := win_flat0 rdsD_len l i 4 hil (by decide)
    rw [List.drop_eq_getElem_cons hil, outR] at hF
    obtain ⟨x, hx⟩ : ∃ x, l[i] = x := ⟨_, rfl⟩
    rw [hx] at hw hF
    clear hx
    obtain ⟨TK, hTK⟩ : ∃ T, inR d x i ospf R tk [] = T := ⟨_, rfl⟩
    rw [hTK] at hF
    unfold ovE
    repeat ((fail_if_success (refine stopL ?_)); first | refine q_Z ?_ | refine R_quiet rfl mixed (by kernel_rfl) ?_ | ((first | apply O_y rfl rfl rfl | apply Q_y rfl rfl rfl); (first | exact R_addN rfl rfl rfl | exact R_subN rfl rfl rfl | (first | exact q_A | exact R_loadi tabOk rfl rfl rfl rfl hw rfl rfl | exact q_B | (first | exact q_5 | exact R_index (j := i) tabOk rfl rfl rfl rfl rfl rfl hil)))) | refine q_d ?_ | refine q_a ?_ | refine q_b ?_ | refine q_c ?_ | refine A_ct rfl ?_ | refine A_cf rfl ?_ | refine q_W ?_ | (refine O_makeMap 904 rfl rfl rfl rfl rfl ?_))
    refine A_weaken (Wk_freezeV (id := 17) (ds := rdsD x) rfl rfl) ?_
    try refine A_block ?_
    refine A_loop (fun y : Nat × List (Pfx × Tkn) × List Pfx => ovF d l R ospf i x y.1) (fun y => [(903, tkB y.2.1), (904, lkB y.2.2)]) (fun y => y.1 ≤ R.length ∧ Ents y.2.1 ∧ (∀ e ∈ y.2.1, ∃ r ∈ R, r.p = e.1) ∧ y.2.2.Nodup ∧ inR d x i ospf (R.drop y.1) y.2.1 y.2.2 = TK) (fun y => R.length - y.1) (0, tk, []) ⟨Nat.zero_le _, hE, hM, .nil, hTK⟩
      (Wk_sel ⟨rfl, rfl, rfl, rfl, rfl, rfl, rfl, rfl, rfl, rfl, rfl, rfl, rfl, rfl, trivial⟩ ⟨ktz _ _ _ _ _, rfl, trivial⟩) ?_
    clear hE hM hTK
    rintro ⟨k, tk, lk⟩ ⟨hk, hE, hM, hN, hI⟩
    try dsimp only at hk hE hM hN hI ⊢
    by_cases hkl : k < R.length
    · have hrm : R[k] ∈ R := List.getElem_mem hkl
      have hkr := hRm _ hrm
      have hw2 := win_flat0 rteD_len R k 9 hkl (by decide)
      have hcom := comes_A R[k] x.from_ hkr.1
      rw [List.drop_eq_getElem_cons hkl, inR] at hI
      obtain ⟨r, hr⟩ : ∃ r, R[k] = r := ⟨_, rfl⟩
      rw [hr] at hw2 hcom hI hkr hrm
      clear hr
      unfold ovF
      cases hag : aget tk r.p with
      | some v =>
        rw [if_pos (.inl (by rw [hag]; rfl))] at hI
        repeat ((fail_if_success (refine stopL ?_)); first | refine q_Z ?_ | refine R_quiet rfl mixed (by kernel_rfl) ?_ | ((first | apply O_y rfl rfl rfl | apply Q_y rfl rfl rfl); (first | exact R_addN rfl rfl rfl | exact R_subN rfl rfl rfl | (first | exact q_A | exact R_loadi tabOk rfl rfl rfl rfl hw2 rfl rfl | exact q_B | (first | exact q_5 | exact R_index (j := k) tabOk rfl rfl rfl rfl rfl rfl hkl | exact R_lkIn (k := r.p) (xa := tkA) pfxKey pfxA_val zeroTkn trivial (fun _ _ => trivial) hE.nd hag tabOk rfl rfl rfl (kt1 20 tk) rfl rfl)))) | refine q_d ?_ | refine q_a ?_ | refine q_b ?_ | refine q_c ?_ | refine A_ct rfl ?_ | refine A_cf rfl ?_ | refine q_W ?_)
        exact ⟨(k + 1, tk, lk), ⟨hkl, hE, hM, hN, hI⟩, by (try dsimp only); omega, Wk_sel ⟨rfl, rfl, rfl, rfl, rfl, rfl, rfl, rfl, rfl, rfl, rfl, rfl, rfl, rfl, trivial⟩ ⟨kt2 _ _ _, kl2 _ _ _, trivial⟩⟩
      | none =>
        cases hcb : comesB r.f x.from_ with
        | false =>
          rw [if_pos (.inr (.inl hcb))] at hI
          rw [hcb] at hcom
          repeat ((fail_if_success (refine stopL ?_)); first | refine q_Z ?_ | refine R_quiet rfl mixed (by kernel_rfl) ?_ | ((first | apply O_y rfl rfl rfl | apply Q_y rfl rfl rfl); (first | exact R_addN rfl rfl rfl | exact R_subN rfl rfl rfl | (first | exact q_A | exact R_loadi tabOk rfl rfl rfl rfl hw2 rfl rfl | exact q_B | (first | exact q_5 | exact R_index (j := k) tabOk rfl rfl rfl rfl rfl rfl hkl | exact R_lkOutA (k := r.p) (xa := tkA) zTA zTA_rel pfxKey pfxA_val zeroTkn trivial (fun _ _ => trivial) hE.nd hag tabOk rfl rfl rfl (kt1 20 tk) rfl rfl)))) | refine q_d ?_ | refine q_a ?_ | refine q_b ?_ | refine q_c ?_ | refine A_ct rfl ?_ | refine A_cf rfl ?_ | refine q_W ?_ | refine O_c rfl rfl rfl rfl rfl hcom (fun _ => rfl) ?_)
          exact ⟨(k + 1, tk, lk), ⟨hkl, hE, hM, hN, hI⟩, by (try dsimp only); omega, Wk_sel ⟨rfl, rfl, rfl, rfl, rfl, rfl, rfl, rfl, rfl, rfl, rfl, rfl, rfl, rfl, trivial⟩ ⟨kt2 _ _ _, kl2 _ _ _, trivial⟩⟩
        | true =>
          rw [hcb] at hcom
          by_cases hlk : r.p ∈ lk
          · rw [if_pos (.inr (.inr hlk))] at hI
            repeat ((fail_if_success (refine stopL ?_)); first | refine q_Z ?_ | refine R_quiet rfl mixed (by kernel_rfl) ?_ | ((first | apply O_y rfl rfl rfl | apply Q_y rfl rfl rfl); (first | exact R_addN rfl rfl rfl | exact R_subN rfl rfl rfl | (first | exact q_A | exact R_loadi tabOk rfl rfl rfl rfl hw2 rfl rfl | exact q_B | (first | exact q_5 | exact R_index (j := k) tabOk rfl rfl rfl rfl rfl rfl hkl | exact R_lkOutA (k := r.p) (xa := tkA) zTA zTA_rel pfxKey pfxA_val zeroTkn trivial (fun _ _ => trivial) hE.nd hag tabOk rfl rfl rfl (kt1 20 tk) rfl rfl | exact R_lk1 (k := r.p) (xa := intA) pfxKey pfxA_val zeroIntO trivial (fun _ _ => trivial) (by rw [lkM_keys]; exact hN) (lkM_in hN hlk) tabOk rfl rfl rfl (kl2 21 20 lk) rfl rfl)))) | refine q_d ?_ | refine q_a ?_ | refine q_b ?_ | refine q_c ?_ | refine A_ct rfl ?_ | refine A_cf rfl ?_ | refine q_W ?_ | refine O_c rfl rfl rfl rfl rfl hcom (fun _ => rfl) ?_)
            exact ⟨(k + 1, tk, lk), ⟨hkl, hE, hM, hN, hI⟩, by (try dsimp only); omega, Wk_sel ⟨rfl, rfl, rfl, rfl, rfl, rfl, rfl, rfl, rfl, rfl, rfl, rfl, rfl, rfl, trivial⟩ ⟨kt2 _ _ _, kl2 _ _ _, trivial⟩⟩
          · rw [if_neg (by rw [hag, hcb]; simp [hlk])] at hI
            have hNk : ((lkM lk).map (·.1)).Nodup := by rw [lkM_keys]; exact hN
            have hout := lkM_out hlk
            repeat ((fail_if_success (refine stopL ?_)); first | refine q_Z ?_ | refine R_quiet rfl mixed (by kernel_rfl) ?_ | ((first | apply O_y rfl rfl rfl | apply Q_y rfl rfl rfl); (first | exact R_addN rfl rfl rfl | exact R_subN rfl rfl rfl | (first | exact q_A | exact R_loadi tabOk rfl rfl rfl rfl hw2 rfl rfl | exact q_B | (first | exact q_5 | exact R_index (j := k) tabOk rfl rfl rfl rfl rfl rfl hkl | exact R_lkOutA (k := r.p) (xa := tkA) zTA zTA_rel pfxKey pfxA_val zeroTkn trivial (fun _ _ => trivial) hE.nd hag tabOk rfl rfl rfl (kt1 20 tk) rfl rfl | exact R_lk0 (k := r.p) (xa := intA) (intA 0) (fun _ _ _ => sc_rel rfl) pfxKey pfxA_val zeroIntO trivial (fun _ _ => trivial) hNk hout tabOk rfl rfl rfl (kl2 21 20 lk) rfl rfl)))) | refine q_d ?_ | refine q_a ?_ | refine q_b ?_ | refine q_c ?_ | refine A_ct rfl ?_ | refine A_cf rfl ?_ | refine q_W ?_ | refine O_c rfl rfl rfl rfl rfl hcom (fun _ => rfl) ?_)
            have hnd0 : ((lkM lk ++ [(r.p, (0 : Int))]).map (·.1)).Nodup := by
              rw [List.map_append, lkM_keys]
              exact List.nodup_append.2 ⟨hN, by simp, fun a ha b hb => by simp at hb; subst hb; intro e; exact hlk (e ▸ ha)⟩
            have hin0 : aget (lkM lk ++ [(r.p, (0 : Int))]) r.p = some 0 := aget_of_mem hnd0 (by simp)
            have hlk2 : (lk ++ [r.p]).Nodup := List.nodup_append.2 ⟨hN, by simp, fun a ha b hb => by simp at hb; subst hb; intro e; exact hlk (e ▸ ha)⟩
            refine A_weaken (Wk_sel (e1 := (20, .ptr 20 0) :: ovF d l R ospf i x k) (h1 := [(20, rteB1 r), (903, tkB tk), (904, lkB lk)]) ⟨rfl, rfl, rfl, rfl, rfl, rfl, rfl, rfl, rfl, rfl, rfl, rfl, rfl, rfl, rfl, trivial⟩ ⟨rfl, kt2 _ _ _, kl2 _ _ _, trivial⟩) ?_
            refine A_cutO ((20, .ptr 20 0) :: ovF d l R ospf i x k) [(20, rteB1 r), (903, tkB tk), (904, lkB (lk ++ [r.p]))] ?_ ?_
            · refine N_begin [904] mixed ?_
              apply q_P 0 rfl (by kernel_rfl) rfl rfl rfl
              exact q_1
              apply q_P 1 rfl (by kernel_rfl) rfl rfl rfl
              exact q_8
              apply q_P 2 rfl (by kernel_rfl) rfl rfl rfl
              exact q_7
              refine N_two (j := 3) (k := 5) (by kernel_rfl) ?_ ?_
              · refine T_yield rfl rfl rfl rfl (R_lk0 (k := r.p) (xa := intA) (intA 0) (fun _ _ _ => sc_rel rfl) pfxKey pfxA_val zeroIntO trivial (fun _ _ => trivial) hNk hout tabOk rfl rfl rfl rfl rfl rfl) ?_
                apply q_P 4 rfl (by kernel_rfl) rfl rfl rfl
                (first | exact q_A | exact q_5 | exact q_B | fail)
                refine N_one (j := 5) (by kernel_rfl) ?_
                refine T_mapEntry0 (k := r.p) (xa := intA) (z := (0 : Int)) pfxKey pfxA_val pfxA_rel zeroIntO (fun _ _ _ => sc_rel rfl) trivial (fun _ _ => trivial) hNk hout tabOk rfl rfl rfl rfl rfl rfl rfl rfl rfl rfl fun br bbs bb bc hbl => ?_
                apply q_P 6 rfl (by kernel_rfl) rfl rfl rfl
                exact q_14
                refine N_one (j := 7) (by kernel_rfl) ?_
                refine T_entryStore0 (z' := (1 : Int)) hbl rfl rfl rfl rfl rfl rfl rfl rfl rfl ?_
                refine N_done (by kernel_rfl) ?_
                refine q_j ?_
                exact Wk_sel ⟨rfl, rfl, rfl, rfl, rfl, rfl, rfl, rfl, rfl, rfl, rfl, rfl, rfl, rfl, rfl, trivial⟩ ⟨rfl, rfl, lk_snoc _ _, trivial⟩
              · refine T_mapEntry0 (k := r.p) (xa := intA) (z := (0 : Int)) pfxKey pfxA_val pfxA_rel zeroIntO (fun _ _ _ => sc_rel rfl) trivial (fun _ _ => trivial) hNk hout tabOk rfl rfl rfl rfl rfl rfl rfl rfl rfl rfl fun br bbs bb bc hbl => ?_
                apply q_P 6 rfl (by kernel_rfl) rfl rfl rfl
                exact q_14
                refine N_one (j := 3) (by kernel_rfl) ?_
                refine T_yield rfl rfl rfl rfl (R_lk1x pfxKey pfxA_val zeroIntO trivial (fun _ _ => trivial) hnd0 hin0 tabOk rfl rfl rfl rfl rfl rfl) ?_
                apply q_P 4 rfl (by kernel_rfl) rfl rfl rfl
                (first | exact q_A | exact q_5 | exact q_B | fail)
                refine N_one (j := 7) (by kernel_rfl) ?_
                refine T_entryStore0 (z' := (1 : Int)) hbl rfl rfl rfl rfl rfl rfl rfl rfl rfl ?_
                refine N_done (by kernel_rfl) ?_
                refine q_j ?_
                exact Wk_sel ⟨rfl, rfl, rfl, rfl, rfl, rfl, rfl, rfl, rfl, rfl, rfl, rfl, rfl, rfl, rfl, trivial⟩ ⟨rfl, rfl, lk_snoc _ _, trivial⟩
            obtain ⟨mm, hmm⟩ : ∃ m, (if x.met ≠ -1 then x.met else if ospf then 20 else r.m) = m := ⟨_, rfl⟩
            have hs : subjR x ospf r = ⟨r.p, mm, r.t, 100, [], [], 0⟩ := by unfold subjR; rw [hmm]
            have hap := hok.ap (subjR x ospf r) hkr.2 rfl rfl
            rw [hs] at hap hI
            have ca := apply_A d x.pol ⟨r.p, mm, r.t, 100, [], [], 0⟩ hap
            have hAp : (applyP d x.pol ⟨r.p, mm, r.t, 100, [], [], 0⟩).2.1 = true → (applyP d x.pol ⟨r.p, mm, r.t, 100, [], [], 0⟩).1.p = r.p := fun h => applyP_p h
            obtain ⟨⟨A, okk, er⟩, hA⟩ : ∃ t, applyP d x.pol ⟨r.p, mm, r.t, 100, [], [], 0⟩ = t := ⟨_, rfl⟩
            rw [hA] at ca hI hAp
            dsimp only at ca hI hAp
            refine A_seq ?_
            refine R_list ?_
            (apply O_y rfl rfl rfl; (exact q_8))
            (apply O_y rfl rfl rfl; (exact q_7))
            (apply O_y rfl rfl rfl; (exact q_4))
            (apply O_y rfl rfl rfl; (exact q_5))
            (apply O_y rfl rfl rfl; (exact q_8))
            (apply O_y rfl rfl rfl; (exact q_7))
            (apply O_y rfl rfl rfl; (exact R_build (xs := [.d (uD r.p.a), .d (iD r.p.b), .d (iD x.met), .d (iD r.t), .d (iD 100), .d (.sc (.slice none 0 0)), .d (.sc (.slice none 0 0)), .d (uD 0)]) tabOk rfl rfl rfl rfl rfl (by kernel_rfl)))
            refine q_a ?_
            refine O_store tabOk rfl rfl rfl rfl rfl rfl rfl (by kernel_rfl) rfl (by kernel_rfl) (by kernel_rfl) ?_
            refine O_nil ?_
            refine q_j ?_
            refine A_weaken (Wk_sel (e1 := (23, .ptr 23 0) :: (20, .ptr 20 0) :: ovF d l R ospf i x k) (h1 := [(23, .var [.d (uD r.p.a), .d (iD r.p.b), .d (iD x.met), .d (iD r.t), .d (iD 100), .d (.sc (.slice none 0 0)), .d (.sc (.slice none 0 0)), .d (uD 0)]), (20, rteB1 r), (903, tkB tk), (904, lkB (lk ++ [r.p]))]) ⟨rfl, rfl, rfl, rfl, rfl, rfl, rfl, rfl, rfl, rfl, rfl, rfl, rfl, rfl, rfl, rfl, trivial⟩ ⟨by kernel_rfl, rfl, kt1 _ _, kl1 _ _, trivial⟩) ?_
            refine A_cut ((23, .ptr 23 0) :: (20, .ptr 20 0) :: ovF d l R ospf i x k) [(23, .var ((sbjD ⟨r.p, mm, r.t, 100, [], [], 0⟩).map .d)), (20, rteB1 r), (903, tkB tk), (904, lkB (lk ++ [r.p]))] ?_ ?_
            · unfold ovF
              by_cases hm : x.met = -1
              · rw [if_neg (fun h => h hm)] at hmm
                cases ospf with
                | true =>
                  rw [if_pos rfl] at hmm
                  subst hmm
                  repeat ((fail_if_success (refine stopL ?_)); first | refine q_Z ?_ | refine R_quiet rfl mixed (by kernel_rfl) ?_ | ((first | apply O_y rfl rfl rfl | apply Q_y rfl rfl rfl); (first | exact R_addN rfl rfl rfl | exact R_subN rfl rfl rfl | (first | exact q_A | exact q_5 | exact q_B))) | refine q_d ?_ | refine q_a ?_ | refine q_b ?_ | refine q_c ?_ | refine A_ct rfl ?_ | refine A_cf rfl ?_ | refine q_W ?_)
                  exact (Wk_seeN (b := 23) rfl).trans (Wk_sel ⟨rfl, rfl, rfl, rfl, rfl, rfl, rfl, rfl, rfl, rfl, rfl, rfl, rfl, rfl, rfl, rfl, trivial⟩ ⟨rfl, rfl, rfl, rfl, trivial⟩)
                | false =>
                  rw [if_neg (by decide)] at hmm
                  subst hmm
                  repeat ((fail_if_success (refine stopL ?_)); first | refine q_Z ?_ | refine R_quiet rfl mixed (by kernel_rfl) ?_ | ((first | apply O_y rfl rfl rfl | apply Q_y rfl rfl rfl); (first | exact R_addN rfl rfl rfl | exact R_subN rfl rfl rfl | (first | exact q_A | exact q_5 | exact q_B))) | refine q_d ?_ | refine q_a ?_ | refine q_b ?_ | refine q_c ?_ | refine A_ct rfl ?_ | refine A_cf rfl ?_ | refine q_W ?_)
                  exact (Wk_seeN (b := 23) rfl).trans (Wk_sel ⟨rfl, rfl, rfl, rfl, rfl, rfl, rfl, rfl, rfl, rfl, rfl, rfl, rfl, rfl, rfl, rfl, trivial⟩ ⟨rfl, rfl, rfl, rfl, trivial⟩)
              · rw [if_pos hm] at hmm
                subst hmm
                repeat ((fail_if_success (refine stopL ?_)); first | refine q_Z ?_ | refine R_quiet rfl mixed (by kernel_rfl) ?_ | ((first | apply O_y rfl rfl rfl | apply Q_y rfl rfl rfl); (first | exact R_addN rfl rfl rfl | exact R_subN rfl rfl rfl | (first | exact q_A | exact q_5 | exact q_B))) | refine q_d ?_ | refine q_a ?_ | refine q_b ?_ | refine q_c ?_ | refine A_ct rfl ?_ | refine A_cf rfl ?_ | refine q_W ?_)
                exact (Wk_seeN (b := 23) rfl).trans (Wk_sel ⟨rfl, rfl, rfl, rfl, rfl, rfl, rfl, rfl, rfl, rfl, rfl, rfl, rfl, rfl, rfl, rfl, trivial⟩ ⟨rfl, rfl, rfl, rfl, trivial⟩)
            refine A_weaken (Wk_freezeV (id := 23) (ds := sbjD ⟨r.p, mm, r.t, 100, [], [], 0⟩) rfl rfl) ?_
            unfold ovF
            cases okk with
            | true =>
              rw [if_pos rfl] at hI
              have hE2 := ents_snoc hE hag (v := (i, A)) (hAp rfl)
              repeat ((fail_if_success (refine stopL ?_)); first | refine q_Z ?_ | refine R_quiet rfl mixed (by kernel_rfl) ?_ | ((first | apply O_y rfl rfl rfl | apply Q_y rfl rfl rfl); (first | exact R_addN rfl rfl rfl | exact R_subN rfl rfl rfl | (first | exact q_A | exact q_5 | exact q_B))) | refine q_d ?_ | refine q_a ?_ | refine q_b ?_ | refine q_c ?_ | refine A_ct rfl ?_ | refine A_cf rfl ?_ | refine q_W ?_ | first | refine O_c rfl rfl rfl rfl rfl ca (fun _ => rfl) ?_ | (refine O_upd (k := r.p) (xa := tkA) (q := (i, A)) pfxKey pfxA_val pfxA_rel trivial (fun _ _ => trivial) hE.nd tabOk rfl rfl rfl rfl rfl (ktz1 _ _ _ tk) rfl rfl ?_))
              exact ⟨(k + 1, tk ++ [(r.p, (i, A))], lk ++ [r.p]), ⟨hkl, hE2, fun e he => by
                rcases List.mem_append.1 he with he | he
                · exact hM e he
                · have : e = (r.p, (i, A)) := by simpa using he
                  subst this
                  exact ⟨r, hrm, rfl⟩, hlk2, hI⟩, by (try dsimp only); omega, Wk_sel ⟨rfl, rfl, rfl, rfl, rfl, rfl, rfl, rfl, rfl, rfl, rfl, rfl, rfl, rfl, trivial⟩ ⟨tk_snoc _ _ _ hag, klz1 _ _ _ _, trivial⟩⟩
            | false =>
              rw [if_neg (by decide)] at hI
              repeat ((fail_if_success (refine stopL ?_)); first | refine q_Z ?_ | refine R_quiet rfl mixed (by kernel_rfl) ?_ | ((first | apply O_y rfl rfl rfl | apply Q_y rfl rfl rfl); (first | exact R_addN rfl rfl rfl | exact R_subN rfl rfl rfl | (first | exact q_A | exact q_5 | exact q_B))) | refine q_d ?_ | refine q_a ?_ | refine q_b ?_ | refine q_c ?_ | refine A_ct rfl ?_ | refine A_cf rfl ?_ | refine q_W ?_ | refine O_c rfl rfl rfl rfl rfl ca (fun _ => rfl) ?_)
              exact ⟨(k + 1, tk, lk ++ [r.p]), ⟨hkl, hE, hM, hlk2, hI⟩, by (try dsimp only); omega, Wk_sel ⟨rfl, rfl, rfl, rfl, rfl, rfl, rfl, rfl, rfl, rfl, rfl, rfl, rfl, rfl, trivial⟩ ⟨ktz1 _ _ _ _, klz1 _ _ _ _, trivial⟩⟩
    · obtain rfl : k = R.length := by omega
      rw [List.drop_length, inR] at hI
      subst hI
      unfold ovF
      repeat ((fail_if_success (refine stopL ?_)); first | refine q_Z ?_ | refine R_quiet rfl mixed (by kernel_rfl) ?_ | ((first | apply O_y rfl rfl rfl | apply Q_y rfl rfl rfl); (first | exact R_addN rfl rfl rfl | exact R_subN rfl rfl rfl | (first | exact q_A | exact q_5 | exact q_B))) | refine q_d ?_ | refine q_a ?_ | refine q_b ?_ | refine q_c ?_ | refine A_ct rfl ?_ | refine A_cf rfl ?_ | refine q_W ?_)
      exact ⟨(i + 1, tk), ⟨hil, hE, hM, hF⟩, by (try dsimp only); omega, Wk_sel ⟨rfl, rfl, rfl, rfl, rfl, rfl, rfl, rfl, trivial⟩ ⟨rfl, trivial⟩⟩
  obtain rfl : i = l.length := by omega
  rw [List.drop_length, outR] at hF
  subst hF
  have htl := ents_len hE hM
  clear hM
  unfold ovE
  refine A_open (mid := 903) rfl fun r bs clk hbl hbp hbc => ?_
  repeat ((fail_if_success (refine stopL ?_)); first | refine q_Z ?_ | refine R_quiet rfl mixed (by kernel_rfl) ?_ | ((first | apply O_y rfl rfl rfl | apply Q_y rfl rfl rfl); (first | exact R_addN rfl rfl rfl | exact R_subN rfl rfl rfl | (first | exact q_A | exact q_5 | exact q_B))) | refine q_d ?_ | refine q_a ?_ | refine q_b ?_ | refine q_c ?_ | refine A_ct rfl ?_ | refine A_cf rfl ?_ | refine q_W ?_ | (refine O_range tabOk rfl rfl rfl rfl rfl rfl rfl rfl ?_))
  refine A_weaken (Wk_sel (e1 := [(27, .d (.sc (.slice none 0 0))), (130, .ptr 130 0)]) (h1 := [(130, .it (.mapIter (some r) clk #[] clk)), (903, .mapx r bs clk (ents pfxA tkA tk))]) ⟨rfl, rfl, trivial⟩ ⟨rfl, congrArg some (kill_tkx _ _ _ _ _), trivial⟩) ?_
  refine A_weaken (Wk_nil 49 9 (t := 27) (id := 27) rfl rfl) ?_
  try refine A_block ?_
  refine A_loop (fun _ : List Nat => [(27, .row 27), (130, .ptr 130 0)]) (fun js => [(27, tknB ((comeV tk js).map (·.2))), (130, .it (.mapIter (some r) clk (seenO bs js) clk)), (903, .mapx r bs clk (ents pfxA tkA tk))]) (fun js => js.Nodup ∧ ∀ j ∈ js, j < tk.length) (fun js => tk.length - js.length) [] ⟨.nil, by simp⟩ (Wk_sel ⟨rfl, rfl, trivial⟩ ⟨rfl, rfl, congrArg some (kill_tkx _ _ _ _ _), trivial⟩) ?_
  rintro js ⟨hnd, hjl⟩
  try dsimp only
  have hbm : bs.length = tk.length := by rw [hbl]; simp [ents]
  have hbjl : ∀ j ∈ js, j < bs.length := fun j hj => by rw [hbm]; exact hjl j hj
  refine A_seq ?_
  refine R_list ?_
  refine O_next (mid := 903) rfl rfl rfl rfl rfl rfl rfl (Nat.le_refl _) (Nat.le_refl _) (fun hall => ?_) (fun j p b hp hb hs => ?_)
  · have hper := comeV_all tk js hnd hjl fun j hj => (seenO_has bs js hbp hbjl j bs[j] (List.getElem?_eq_getElem (by omega))).1 (hall _ (List.getElem_mem (by omega)))
    have hper2 : ((comeV tk js).map (·.2)).Perm (tk.map (·.2)) := hper.map _
    have hap := apart_perm hper2 (ents_apart hE)
    have hsrt : srt cmpT ((comeV tk js).map (·.2)) = takenL tk := srtT_perm hper2 (ents_apart hE)
    have hlen : ((comeV tk js).map (·.2)).length ≤ 1000000 := by rw [hper2.length_eq, List.length_map]; omega
    generalize (comeV tk js).map (·.2) = L at hap hsrt hlen ⊢
    have hso := sortT_A L (by omega) (apart_idx hap)
    rw [hsrt] at hso
    repeat ((fail_if_success (refine stopL ?_)); first | refine q_Z ?_ | refine R_quiet rfl mixed (by kernel_rfl) ?_ | ((first | apply O_y rfl rfl rfl | apply Q_y rfl rfl rfl); (first | exact R_addN rfl rfl rfl | exact R_subN rfl rfl rfl | (first | exact q_A | exact q_5 | exact q_B))) | refine q_d ?_ | refine q_a ?_ | refine q_b ?_ | refine q_c ?_ | refine A_ct rfl ?_ | refine A_cf rfl ?_ | refine q_W ?_)
    refine O_cP [(1000, 27)] (fun p p' i h1 h2 => by rw [(look_oneO h1).1, (look_oneO h2).1]) (fun p i h1 => by rw [(look_oneO h1).1]; exact ⟨Nat.le_refl _, rfl, rfl⟩) hso (fun c hc => by simp at hc; rcases hc with rfl | rfl <;> rfl) ⟨⟨27, _, rfl, rfl, rfl, trivial⟩, trivial⟩ rfl rfl rfl rfl rfl rfl ?_
    repeat ((fail_if_success (refine stopL ?_)); first | refine q_Z ?_ | refine R_quiet rfl mixed (by kernel_rfl) ?_ | ((first | apply O_y rfl rfl rfl | apply Q_y rfl rfl rfl); (first | exact R_addN rfl rfl rfl | exact R_subN rfl rfl rfl | (first | exact q_A | exact q_5 | exact q_B))) | refine q_d ?_ | refine q_a ?_ | refine q_b ?_ | refine q_c ?_ | refine A_ct rfl ?_ | refine A_cf rfl ?_ | refine q_W ?_)
    exact X_retW ((Wk_sel (e1 := [(8, .row 27), (9, .d (iD 0))]) (h1 := [(27, tknB (takenL tk))]) ⟨rfl, rfl, trivial⟩ ⟨rfl, trivial⟩).trans (Wk_freeze (id := 27) rfl)) rfl (h2 := []) trivial ⟨rfl, rfl⟩
  · obtain ⟨q, hq, rfl⟩ : ∃ q, tk[j]? = some q ∧ p = (pfxA q.1, tkA q.2) := by
      rw [ents, List.getElem?_map] at hp
      cases h1 : tk[j]? with
      | none => simp [h1] at hp
      | some q => simp [h1] at hp; exact ⟨q, rfl, hp.symm⟩
    have hjm : j < tk.length := (List.getElem?_eq_some_iff.1 hq).1
    have hnot : j ∉ js := fun h => by rw [(seenO_has bs js hbp hbjl j b hb).2 h] at hs; cases hs
    have hnd2 : (js ++ [j]).Nodup := List.nodup_append.2 ⟨hnd, by simp, by rintro a ha b hb rfl; simp at hb; subst hb; exact hnot ha⟩
    have hjl2 : ∀ i ∈ js ++ [j], i < tk.length := fun i hi => by
      rcases List.mem_append.1 hi with h | h
      · exact hjl i h
      · simp at h; omega
    have hlen2 := nodupO_len hnd2 hjl2
    rw [List.length_append] at hlen2
    simp at hlen2
    rw [seenO_push bs js j b hb]
    have hcs := comeV_snoc tk js j q hq
    have hcl : ((comeV tk js).map (·.2)).length ≤ 1000000 := by
      rw [List.length_map]
      have := comeV_len tk js
      omega
    repeat ((fail_if_success (refine stopL ?_)); first | refine q_Z ?_ | refine R_quiet rfl mixed (by kernel_rfl) ?_ | ((first | apply O_y rfl rfl rfl | apply Q_y rfl rfl rfl); (first | exact R_addN rfl rfl rfl | exact R_subN rfl rfl rfl | (first | exact q_A | exact q_5 | exact q_B | (exact R_entry (mid := 903) (p := (pfxA q.1, tkA q.2)) rfl rfl (by rw [← seenO_push bs js j b hb]; rfl) rfl hp hb rfl rfl)))) | refine q_d ?_ | refine q_a ?_ | refine q_b ?_ | refine q_c ?_ | refine A_ct rfl ?_ | refine A_cf rfl ?_ | refine q_W ?_ | (first | refine O_appR tabOk rfl rfl rfl rfl rfl rfl rfl rfl rfl rfl rfl (by first | exact Src.row rfl | exact Src.dat _ _ | exact Src.nil) rfl (by omega) ?_ | refine O_appN tabOk rfl rfl rfl rfl rfl rfl rfl rfl rfl rfl (by first | exact Src.row rfl | exact Src.dat _ _ | exact Src.nil) rfl (by omega) ?_))
    exact ⟨js ++ [j], ⟨hnd2, hjl2⟩, by rw [List.length_append]; simp; omega, Wk_sel ⟨rfl, rfl, trivial⟩ ⟨row_eq (by rw [hcs]; simp) (by rw [hcs, List.map_append, List.flatMap_append]; simp; rfl) rfl, rfl, ktx3 _ _ _ _ _ _ _, trivial⟩⟩
end Ab
end Go.Proofs.YtpnhkkejcnicoaaGreat

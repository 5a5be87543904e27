/-
  Texts of a proof, one behind the other (part 13).
-/
import Derived.Test.YtblgdfcijkaimaaBg1
import Derived.Test.YtblgdfcijkaimaaBg10
import Derived.Test.YtblgdfcijkaimaaBg11
set_option linter.unusedVariables false
set_option linter.unusedSimpArgs false
namespace Go.Proofs.Ytblgdfcijkaimaa.Ab
set_option linter.unusedVariables false
set_option maxRecDepth 100000
open Go.RowKit Go.Lib
set_option linter.unusedSimpArgs false
attribute [local irreducible] AWp AOps AQ AYield AEff ACall AWk AAny AAt AThen AIn APost NoPanic
set_option maxHeartbeats 4000000 in
theorem twinAdv_A (x : Adv) (hx : x.ok) : ACall Try.prog 13 [advA x] [] (Just (advA x)) := by
  have h1 : x.path.length * 4 ≤ 140737488351232 := hx.b1
  have h2 : x.com.length * 4 ≤ 140737488351232 := hx.b2
  have h3 : x.clus.length * 4 ≤ 140737488351232 := hx.b3
  clear hx
  obtain ⟨⟨pa, pb⟩, hop, pref, met, path, com, peer, pid, ext, orig, clus, ses⟩ := x
  dsimp only at h1 h2 h3
  have e1 : (([] : List Dat) ++ path.flatMap u1D, 0 + path.length) = (path.flatMap u1D, path.length) := by simp
  refine ACall_of tabOk Try.func13 rfl Try.ntmps13 (congrArg Array.toList Try.results13) (by kernel_rfl) rfl ?_
  refine A_seq ?_
  refine R_list ?_
  refine q_d ?_
  refine O_weaken (Wk_sel (e1 := [(1, .ptr 1 0)]) (h1 := [(1, .var [.d (uD pa), .d (iD pb), .d (uD hop), .d (iD pref), .d (iD met), .d (.sl (path.flatMap u1D) path.length), .d (.sl (com.flatMap u1D) com.length), .d (uD peer), .d (uD pid), .d (bD ext), .d (uD orig), .d (.sl (clus.flatMap u1D) clus.length), .d (iD ses)])]) ⟨rfl, trivial⟩ ⟨rfl, trivial⟩) ?_
  repeat (first | refine q_Z ?_ | ((first | apply O_y rfl rfl rfl | apply Q_y rfl rfl rfl); (first | exact q_A | exact q_5 | exact q_B)) | refine q_d ?_ | refine q_a ?_ | refine q_b ?_ | refine q_c ?_ | refine A_ct rfl ?_ | refine A_cf rfl ?_ | refine q_W ?_ | refine O_slice0 tabOk rfl rfl rfl rfl rfl rfl rfl ?_)
  refine O_appRB (rid := 3) tabOk rfl rfl rfl rfl rfl rfl rfl rfl rfl rfl rfl rfl (Src.dat _ _) (flat_len u1D_len _) (by omega) ?_
  refine O_weaken (Wk_freeze (id := 3) rfl) ?_
  refine O_weaken (Wk_sel (e1 := [(1, .ptr 1 0), (2, .ptr 2 0), (6, .d (.sl (path.flatMap u1D) path.length))]) (h1 := [(1, .var [.d (uD pa), .d (iD pb), .d (uD hop), .d (iD pref), .d (iD met), .d (.sl (path.flatMap u1D) path.length), .d (.sl (com.flatMap u1D) com.length), .d (uD peer), .d (uD pid), .d (bD ext), .d (uD orig), .d (.sl (clus.flatMap u1D) clus.length), .d (iD ses)]), (2, .var [.d (.sc (.int .u32 0)), .d (.sc (.int .i64 0)), .d (.sc (.int .u32 0)), .d (.sc (.int .i64 0)), .d (.sc (.int .i64 0)), .d (.sc (.slice none 0 0)), .d (.sc (.slice none 0 0)), .d (.sc (.int .u32 0)), .d (.sc (.int .u32 0)), .d (.sc (.bool false)), .d (.sc (.int .u32 0)), .d (.sc (.slice none 0 0)), .d (.sc (.int .i64 0))])]) ⟨rfl, rfl, (by show some (AVal.d (Dat.sl _ (0 + _))) = _; rw [Nat.zero_add]; rfl), trivial⟩ ⟨rfl, rfl, trivial⟩) ?_
  repeat (first | refine q_Z ?_ | ((first | apply O_y rfl rfl rfl | apply Q_y rfl rfl rfl); (first | exact q_A | exact q_5 | exact q_B)) | refine q_d ?_ | refine q_a ?_ | refine q_b ?_ | refine q_c ?_ | refine A_ct rfl ?_ | refine A_cf rfl ?_ | refine q_W ?_ | refine O_slice0 tabOk rfl rfl rfl rfl rfl rfl rfl ?_)
  refine O_appRB (rid := 8) tabOk rfl rfl rfl rfl rfl rfl rfl rfl rfl rfl rfl rfl (Src.dat _ _) (flat_len u1D_len _) (by omega) ?_
  refine O_weaken (Wk_freeze (id := 8) rfl) ?_
  refine O_weaken (Wk_sel (e1 := [(1, .ptr 1 0), (2, .ptr 2 0), (11, .d (.sl (com.flatMap u1D) com.length))]) (h1 := [(1, .var [.d (uD pa), .d (iD pb), .d (uD hop), .d (iD pref), .d (iD met), .d (.sl (path.flatMap u1D) path.length), .d (.sl (com.flatMap u1D) com.length), .d (uD peer), .d (uD pid), .d (bD ext), .d (uD orig), .d (.sl (clus.flatMap u1D) clus.length), .d (iD ses)]), (2, .var [.d (.sc (.int .u32 0)), .d (.sc (.int .i64 0)), .d (.sc (.int .u32 0)), .d (.sc (.int .i64 0)), .d (.sc (.int .i64 0)), .d (.sc (.slice none 0 0)), .d (.sc (.slice none 0 0)), .d (.sc (.int .u32 0)), .d (.sc (.int .u32 0)), .d (.sc (.bool false)), .d (.sc (.int .u32 0)), .d (.sc (.slice none 0 0)), .d (.sc (.int .i64 0))])]) ⟨rfl, rfl, (by show some (AVal.d (Dat.sl _ (0 + _))) = _; rw [Nat.zero_add]; rfl), trivial⟩ ⟨rfl, rfl, trivial⟩) ?_
  repeat (first | refine q_Z ?_ | ((first | apply O_y rfl rfl rfl | apply Q_y rfl rfl rfl); (first | exact q_A | exact q_5 | exact q_B)) | refine q_d ?_ | refine q_a ?_ | refine q_b ?_ | refine q_c ?_ | refine A_ct rfl ?_ | refine A_cf rfl ?_ | refine q_W ?_ | refine O_slice0 tabOk rfl rfl rfl rfl rfl rfl rfl ?_)
  refine O_appRB (rid := 13) tabOk rfl rfl rfl rfl rfl rfl rfl rfl rfl rfl rfl rfl (Src.dat _ _) (flat_len u1D_len _) (by omega) ?_
  refine O_weaken (Wk_freeze (id := 13) rfl) ?_
  refine O_weaken (Wk_sel (e1 := [(1, .ptr 1 0), (2, .ptr 2 0), (16, .d (.sl (clus.flatMap u1D) clus.length))]) (h1 := [(1, .var [.d (uD pa), .d (iD pb), .d (uD hop), .d (iD pref), .d (iD met), .d (.sl (path.flatMap u1D) path.length), .d (.sl (com.flatMap u1D) com.length), .d (uD peer), .d (uD pid), .d (bD ext), .d (uD orig), .d (.sl (clus.flatMap u1D) clus.length), .d (iD ses)]), (2, .var [.d (.sc (.int .u32 0)), .d (.sc (.int .i64 0)), .d (.sc (.int .u32 0)), .d (.sc (.int .i64 0)), .d (.sc (.int .i64 0)), .d (.sc (.slice none 0 0)), .d (.sc (.slice none 0 0)), .d (.sc (.int .u32 0)), .d (.sc (.int .u32 0)), .d (.sc (.bool false)), .d (.sc (.int .u32 0)), .d (.sc (.slice none 0 0)), .d (.sc (.int .i64 0))])]) ⟨rfl, rfl, (by show some (AVal.d (Dat.sl _ (0 + _))) = _; rw [Nat.zero_add]; rfl), trivial⟩ ⟨rfl, rfl, trivial⟩) ?_
  repeat (first | refine q_Z ?_ | ((first | apply O_y rfl rfl rfl | apply Q_y rfl rfl rfl); (first | exact q_A | exact q_5 | exact q_B)) | refine q_d ?_ | refine q_a ?_ | refine q_b ?_ | refine q_c ?_ | refine A_ct rfl ?_ | refine A_cf rfl ?_ | refine q_W ?_)
  exact X_ret rfl ⟨rfl, rfl⟩
theorem one0_A : ACall Try.prog 43 [boolA false, boolA false] [] (Just (intA 0)) := by
  refine ACall_of tabOk Try.func43 rfl Try.ntmps43 (congrArg Array.toList Try.results43) (by kernel_rfl) rfl ?_
  repeat (first | refine q_Z ?_ | refine R_quiet rfl mixed (by kernel_rfl) ?_ | ((first | apply O_y rfl rfl rfl | apply Q_y rfl rfl rfl); (first | exact q_A | exact q_5 | exact q_B)) | refine q_d ?_ | refine q_a ?_ | refine q_b ?_ | refine q_c ?_ | refine A_ct rfl ?_ | refine A_cf rfl ?_ | refine q_W ?_)
  exact X_ret rfl ⟨rfl, rfl⟩
theorem win_rep (x : Dat) : ∀ (n k : Nat), k < n → win (List.replicate n x) (k * 1) 1 = [x] := fun n k h => by
  unfold win
  rw [Nat.mul_one, List.drop_replicate, List.take_replicate, show min 1 (n - k) = 1 by omega]; rfl
theorem first0_A (n : Nat) (hn : n ≤ 100) : ACall Try.prog 41 [.d (.sl (List.replicate n (iD 0)) n)] [] (Just (intA 0)) := by
  refine ACall_of tabOk Try.func41 rfl Try.ntmps41 (congrArg Array.toList Try.results41) (by kernel_rfl) rfl ?_
  repeat (first | refine q_Z ?_ | refine R_quiet rfl mixed (by kernel_rfl) ?_ | ((first | apply O_y rfl rfl rfl | apply Q_y rfl rfl rfl); (first | exact q_A | exact q_5 | exact q_B)) | refine q_d ?_ | refine q_a ?_ | refine q_b ?_ | refine q_c ?_ | refine A_ct rfl ?_ | refine A_cf rfl ?_ | refine q_W ?_)
  refine A_loop (fun k : Nat => [(0, .d (.sl (List.replicate n (iD 0)) n)), (3, intA (k : Int))]) (fun _ => []) (fun k => k ≤ n) (fun k => n - k) 0 (Nat.zero_le _) (Wk_sel ⟨rfl, rfl, trivial⟩ trivial) ?_
  intro k hkl
  try dsimp only
  by_cases hk : k < n
  · have hw := win_rep (iD 0) n k hk
    repeat (first | refine q_Z ?_ | refine R_quiet rfl mixed (by kernel_rfl) ?_ | ((first | apply O_y rfl rfl rfl | apply Q_y rfl rfl rfl); (first | exact q_A | exact R_loadi tabOk rfl rfl rfl rfl hw rfl rfl | exact q_B)) | refine q_d ?_ | refine q_a ?_ | refine q_b ?_ | refine q_c ?_ | refine A_ct rfl ?_ | refine A_cf rfl ?_ | refine q_W ?_)
    exact ⟨k + 1, by omega, by omega, Wk_sel ⟨rfl, rfl, trivial⟩ trivial⟩
  ·
    repeat (first | refine q_Z ?_ | refine R_quiet rfl mixed (by kernel_rfl) ?_ | ((first | apply O_y rfl rfl rfl | apply Q_y rfl rfl rfl); (first | exact q_A | exact q_5 | exact q_B)) | refine q_d ?_ | refine q_a ?_ | refine q_b ?_ | refine q_c ?_ | refine A_ct rfl ?_ | refine A_cf rfl ?_ | refine q_W ?_)
    exact X_ret rfl ⟨rfl, rfl⟩
theorem numbers0_A (l : List Int) (hn : l.length ≤ 140737488355328) : ACall Try.prog 44 [.d (.sl (l.flatMap u1D) l.length), .d (.sl (l.flatMap u1D) l.length)] [] (Just (intA 0)) := by
  refine ACall_of tabOk Try.func44 rfl Try.ntmps44 (congrArg Array.toList Try.results44) (by kernel_rfl) rfl ?_
  repeat (first | refine q_Z ?_ | refine R_quiet rfl mixed (by kernel_rfl) ?_ | ((first | apply O_y rfl rfl rfl | apply Q_y rfl rfl rfl); (first | exact q_A | exact q_5 | exact q_B)) | refine q_d ?_ | refine q_a ?_ | refine q_b ?_ | refine q_c ?_ | refine A_ct rfl ?_ | refine A_cf rfl ?_ | refine q_W ?_)
  refine A_loop (fun k : Nat => [(0, .d (.sl (l.flatMap u1D) l.length)), (1, .d (.sl (l.flatMap u1D) l.length)), (5, intA (k : Int))]) (fun _ => []) (fun k => k ≤ l.length) (fun k => l.length - k) 0 (Nat.zero_le _) (Wk_sel ⟨rfl, rfl, rfl, trivial⟩ trivial) ?_
  intro k hkl
  try dsimp only
  by_cases hk : k < l.length
  ·
    repeat (first | refine q_Z ?_ | refine R_quiet rfl mixed (by kernel_rfl) ?_ | ((first | apply O_y rfl rfl rfl | apply Q_y rfl rfl rfl); (first | exact q_A | exact R_loadi tabOk rfl rfl rfl rfl (by first | exact win_flat0 u1D_len l k _ hk (by decide) | exact win_flat u1D_len l k _ _ hk (by decide) | exact win_flat2 u1D_len l k _ _ _ hk (by decide) | rfl) rfl rfl | exact q_B | (first | exact R_neInt rfl rfl rfl | exact R_neStr rfl rfl rfl | exact R_neBool tabOk rfl rfl rfl rfl))) | refine q_d ?_ | refine q_a ?_ | refine q_b ?_ | refine q_c ?_ | refine A_ct rfl ?_ | refine A_cf rfl ?_ | refine q_W ?_)
    exact ⟨k + 1, by omega, by omega, Wk_sel ⟨rfl, rfl, rfl, trivial⟩ trivial⟩
  ·
    repeat (first | refine q_Z ?_ | refine R_quiet rfl mixed (by kernel_rfl) ?_ | ((first | apply O_y rfl rfl rfl | apply Q_y rfl rfl rfl); (first | exact q_A | exact q_5 | exact q_B)) | refine q_d ?_ | refine q_a ?_ | refine q_b ?_ | refine q_c ?_ | refine A_ct rfl ?_ | refine A_cf rfl ?_ | refine q_W ?_ | refine O_c rfl rfl rfl rfl rfl one0_A (fun _ => rfl) ?_)
    exact X_ret rfl ⟨rfl, rfl⟩
set_option maxHeartbeats 4000000 in
theorem words_A (l : List Int) (hn : l.length * 4 ≤ 140737488351232) : ACall Try.prog 45 [.d (.sl (l.flatMap u1D) l.length)] [] (fun c h => c = .row 950 ∧ h = [(950, .row 27 1 l.length (l.flatMap u1D))]) := by
  refine ACall_of tabOk Try.func45 rfl Try.ntmps45 (congrArg Array.toList Try.results45) (by kernel_rfl) rfl ?_
  repeat (first | refine q_Z ?_ | refine R_quiet rfl mixed (by kernel_rfl) ?_ | ((first | apply O_y rfl rfl rfl | apply Q_y rfl rfl rfl); (first | exact q_A | exact q_5 | exact q_B)) | refine q_d ?_ | refine q_a ?_ | refine q_b ?_ | refine q_c ?_ | refine A_ct rfl ?_ | refine A_cf rfl ?_ | refine q_W ?_)
  refine A_weaken (Wk_nil 27 1 (t := 3) (id := 17) rfl rfl) ?_
  refine A_loop (fun k : Nat => [(0, .d (.sl (l.flatMap u1D) l.length)), (3, .row 17), (4, intA (k : Int))]) (fun k => [(17, .row 27 1 k ((l.take k).flatMap u1D))]) (fun k => k ≤ l.length) (fun k => l.length - k) 0 (Nat.zero_le _) (Wk_sel ⟨rfl, rfl, rfl, trivial⟩ ⟨rfl, trivial⟩) ?_
  intro k hkl
  try dsimp only
  by_cases hk : k < l.length
  ·
    repeat (first | refine q_Z ?_ | ((first | apply O_y rfl rfl rfl | apply Q_y rfl rfl rfl); (first | exact q_A | exact R_loadi tabOk rfl rfl rfl rfl (by first | exact win_flat0 u1D_len l k _ hk (by decide) | exact win_flat u1D_len l k _ _ hk (by decide) | exact win_flat2 u1D_len l k _ _ _ hk (by decide) | rfl) rfl rfl | exact q_B)) | refine q_d ?_ | refine q_a ?_ | refine q_b ?_ | refine q_c ?_ | refine A_ct rfl ?_ | refine A_cf rfl ?_ | refine q_W ?_ | (refine O_appRB (rid := 17) tabOk rfl rfl rfl rfl rfl rfl rfl rfl rfl rfl rfl rfl (Src.row rfl) rfl (by omega) ?_))
    exact ⟨k + 1, by omega, by omega, Wk_sel ⟨rfl, rfl, rfl, trivial⟩ ⟨row_eq rfl (by rw [List.take_succ_eq_append_getElem hk, List.flatMap_append]; rfl) rfl, trivial⟩⟩
  · obtain rfl : k = l.length := by omega
    rw [List.take_length]
    repeat (first | refine q_Z ?_ | ((first | apply O_y rfl rfl rfl | apply Q_y rfl rfl rfl); (first | exact q_A | exact q_5 | exact q_B)) | refine q_d ?_ | refine q_a ?_ | refine q_b ?_ | refine q_c ?_ | refine A_ct rfl ?_ | refine A_cf rfl ?_ | refine q_W ?_)
    exact X_retW (Wk_rename (p := 17) (id := 950) (t := 2) rfl rfl) rfl (h2 := [(950, .row 27 1 l.length (l.flatMap u1D))]) ⟨rfl, trivial⟩ ⟨rfl, rfl⟩
set_option maxHeartbeats 8000000 in
theorem prefix0_A (p : Pfx) : ACall Try.prog 42 [pfxA p, pfxA p] [] (Just (intA 0)) := by
  obtain ⟨pa, pb⟩ := p
  have hf := first0_A 2 (by decide)
  refine ACall_of tabOk Try.func42 rfl Try.ntmps42 (congrArg Array.toList Try.results42) (by kernel_rfl) rfl ?_
  refine A_seq ?_
  refine R_list ?_
  refine q_d ?_
  refine O_weaken (Wk_freezeV (id := 2) (ds := [uD pa, iD pb]) rfl rfl) ?_
  refine q_d ?_
  refine O_weaken (Wk_freezeV (id := 3) (ds := [uD pa, iD pb]) rfl rfl) ?_
  repeat (first | refine q_Z ?_ | ((first | apply O_y rfl rfl rfl | apply Q_y rfl rfl rfl); (first | exact q_A | exact q_5 | exact q_B)) | refine q_d ?_ | refine q_a ?_ | refine q_b ?_ | refine q_c ?_ | refine A_ct rfl ?_ | refine A_cf rfl ?_ | refine q_W ?_)
  refine N_begin [] mixed ?_
  apply q_P 0 rfl (by kernel_rfl) rfl rfl rfl
  exact q_4
  apply q_P 1 rfl (by kernel_rfl) rfl rfl rfl
  exact q_5
  apply q_P 2 rfl (by kernel_rfl) rfl rfl rfl
  exact q_4
  apply q_P 3 rfl (by kernel_rfl) rfl rfl rfl
  exact q_5
  apply q_P 4 rfl (by kernel_rfl) rfl rfl rfl
  exact q_12
  apply q_P 5 rfl (by kernel_rfl) rfl rfl rfl
  exact q_4
  apply q_P 6 rfl (by kernel_rfl) rfl rfl rfl
  exact q_5
  apply q_P 7 rfl (by kernel_rfl) rfl rfl rfl
  exact q_4
  apply q_P 8 rfl (by kernel_rfl) rfl rfl rfl
  exact q_5
  apply q_P 9 rfl (by kernel_rfl) rfl rfl rfl
  exact q_12
  apply q_P 11 rfl (by kernel_rfl) rfl rfl rfl
  exact q_4
  apply q_P 12 rfl (by kernel_rfl) rfl rfl rfl
  exact q_5
  apply q_P 13 rfl (by kernel_rfl) rfl rfl rfl
  exact q_4
  apply q_P 14 rfl (by kernel_rfl) rfl rfl rfl
  exact q_5
  apply q_P 15 rfl (by kernel_rfl) rfl rfl rfl
  exact q_12
  apply q_P 16 rfl (by kernel_rfl) rfl rfl rfl
  exact q_4
  apply q_P 17 rfl (by kernel_rfl) rfl rfl rfl
  exact q_5
  apply q_P 18 rfl (by kernel_rfl) rfl rfl rfl
  exact q_4
  apply q_P 19 rfl (by kernel_rfl) rfl rfl rfl
  exact q_5
  apply q_P 20 rfl (by kernel_rfl) rfl rfl rfl
  exact q_12
  refine N_one (j := 10) (by kernel_rfl) ?_
  refine T_call rfl rfl rfl rfl rfl rfl one0_A (fun _ => rfl) ?_
  refine N_one (j := 21) (by kernel_rfl) ?_
  refine T_call rfl rfl rfl rfl rfl rfl one0_A (fun _ => rfl) ?_
  refine N_one (j := 22) (by kernel_rfl) ?_
  refine T_slice tabOk rfl rfl rfl rfl rfl rfl rfl rfl rfl rfl rfl rfl ?_
  refine N_weakenS (Wk_freezeS (id := 27) rfl) ?_
  refine N_one (j := 23) (by kernel_rfl) ?_
  refine T_call rfl rfl rfl rfl rfl rfl hf (fun _ => rfl) ?_
  apply q_P 24 rfl (by kernel_rfl) rfl rfl rfl
  exact q_2
  refine N_done (by kernel_rfl) ?_
  repeat (first | refine q_Z ?_ | ((first | apply O_y rfl rfl rfl | apply Q_y rfl rfl rfl); (first | exact q_A | exact q_5 | exact q_B)) | refine q_d ?_ | refine q_a ?_ | refine q_b ?_ | refine q_c ?_ | refine A_ct rfl ?_ | refine A_cf rfl ?_ | refine q_W ?_)
  exact X_ret rfl ⟨rfl, rfl⟩
noncomputable def cmpOps : Array Oper := match Try.f24.body with
  | some (.seq _ (.seq (.region _ ops _) _)) => ops
  | _ => #[]
set_option maxHeartbeats 16000000 in
theorem cmpHead (pa pb hop pref met peer pid orig ses : Int) (path com clus : List Int) (ext : Bool) (Q : Post) (hQ : NoPanic Q) (H : AAny Try.prog 121 cmpOps Q [] 26 #[true, true, true, true, false, true, true, true, true, true, true, true, true, true, true, false, true, true, true, true, true, true, true, true, true, true, false, true, true, true, true, true, true, true, true, true, true, false, true, true, true, true, true, true, true, true, true, true, false, true, true, true, true, true, true, true, true, true, true, false, true, true, true, true, true, true, true, true, true, true, false, true, true, true, false, false, false, false, true, true, false, false, false, false, false, false, true, true, true, true, true, true, true, true, true, true, false, true, true, true, true, false, true, true, true, true, false, true, true, false, true, true, false, false, false, false, false] [(2, .iptr [uD pa, iD pb, uD hop, iD pref, iD met, .sl (path.flatMap u1D) path.length, .sl (com.flatMap u1D) com.length, uD peer, uD pid, bD ext, uD orig, .sl (clus.flatMap u1D) clus.length, iD ses] 0), (3, .iptr [uD pa, iD pb, uD hop, iD pref, iD met, .sl (path.flatMap u1D) path.length, .sl (com.flatMap u1D) com.length, uD peer, uD pid, bD ext, uD orig, .sl (clus.flatMap u1D) clus.length, iD ses] 0), (6, .agg [.d (uD pa), .d (iD pb)]), (8, .agg [.d (uD pa), .d (iD pb)]), (14, boolA false), (19, boolA false), (25, boolA false), (30, boolA false), (36, boolA false), (41, boolA false), (47, boolA false), (52, boolA false), (58, boolA false), (63, boolA false), (69, boolA false), (74, boolA false), (78, boolA (!ext)), (84, boolA ext), (95, boolA false), (100, boolA false), (103, .d (.sl (path.flatMap u1D) path.length)), (105, .d (.sl (path.flatMap u1D) path.length)), (108, .d (.sl (com.flatMap u1D) com.length)), (110, .d (.sl (com.flatMap u1D) com.length)), (113, .d (.sl (clus.flatMap u1D) clus.length)), (116, .d (.sl (clus.flatMap u1D) clus.length))] []) : AAny Try.prog 121 cmpOps Q [] 117 (Array.replicate 117 false) [(2, .iptr [uD pa, iD pb, uD hop, iD pref, iD met, .sl (path.flatMap u1D) path.length, .sl (com.flatMap u1D) com.length, uD peer, uD pid, bD ext, uD orig, .sl (clus.flatMap u1D) clus.length, iD ses] 0), (3, .iptr [uD pa, iD pb, uD hop, iD pref, iD met, .sl (path.flatMap u1D) path.length, .sl (com.flatMap u1D) com.length, uD peer, uD pid, bD ext, uD orig, .sl (clus.flatMap u1D) clus.length, iD ses] 0)] [] := by
  have hns : Region.noSelect cmpOps = true := by kernel_rfl
  have hfr : ([0, 1, 2, 3, 5, 6, 7, 8, 9, 10, 11, 12, 13, 14, 16, 17, 18, 19, 20, 21, 22, 23, 24, 25, 27, 28, 29, 30, 31, 32, 33, 34, 35, 36, 38, 39, 40, 41, 42, 43, 44, 45, 46, 47, 49, 50, 51, 52, 53, 54, 55, 56, 57, 58, 60, 61, 62, 63, 64, 65, 66, 67, 68, 69, 71, 72, 73, 78, 79, 86, 87, 88, 89, 90, 91, 92, 93, 94, 95, 97, 98, 99, 100, 102, 103, 104, 105, 107, 108, 110, 111].all fun i => freeB cmpOps i) = true := by kernel_rfl
  apply N_takeQ (i := 0) hns hfr rfl rfl (by kernel_rfl) hQ rfl rfl rfl
  exact q_4
  apply N_takeQ (i := 1) hns hfr rfl rfl (by kernel_rfl) hQ rfl rfl rfl
  exact q_5
  apply N_takeQ (i := 2) hns hfr rfl rfl (by kernel_rfl) hQ rfl rfl rfl
  exact q_4
  apply N_takeQ (i := 3) hns hfr rfl rfl (by kernel_rfl) hQ rfl rfl rfl
  exact q_5
  apply N_takeQ (i := 5) hns hfr rfl rfl (by kernel_rfl) hQ rfl rfl rfl
  exact q_4
  apply N_takeQ (i := 6) hns hfr rfl rfl (by kernel_rfl) hQ rfl rfl rfl
  exact q_5
  apply N_takeQ (i := 7) hns hfr rfl rfl (by kernel_rfl) hQ rfl rfl rfl
  exact q_4
  apply N_takeQ (i := 8) hns hfr rfl rfl (by kernel_rfl) hQ rfl rfl rfl
  exact q_5
  refine N_listed (l2 := #[true, true, true, true, false, true, true, true, true, false, false, false, false, false, false, false, false, false, false, false, false, false, false, false, false, false, false, false, false, false, false, false, false, false, false, false, false, false, false, false, false, false, false, false, false, false, false, false, false, false, false, false, false, false, false, false, false, false, false, false, false, false, false, false, false, false, false, false, false, false, false, false, false, false, false, false, false, false, false, false, false, false, false, false, false, false, false, false, false, false, false, false, false, false, false, false, false, false, false, false, false, false, false, false, false, false, false, false, false, false, false, false, false, false, false, false, false]) (by kernel_rfl) ?_
  apply N_takeQ (i := 9) hns hfr rfl rfl (by kernel_rfl) hQ rfl rfl rfl
  exact q_12
  apply N_takeQ (i := 10) hns hfr rfl rfl (by kernel_rfl) hQ rfl rfl rfl
  exact q_4
  apply N_takeQ (i := 11) hns hfr rfl rfl (by kernel_rfl) hQ rfl rfl rfl
  exact q_5
  apply N_takeQ (i := 12) hns hfr rfl rfl (by kernel_rfl) hQ rfl rfl rfl
  exact q_4
  apply N_takeQ (i := 13) hns hfr rfl rfl (by kernel_rfl) hQ rfl rfl rfl
  exact q_5
  apply N_takeQ (i := 14) hns hfr rfl rfl (by kernel_rfl) hQ rfl rfl rfl
  exact q_12
  apply N_takeQ (i := 16) hns hfr rfl rfl (by kernel_rfl) hQ rfl rfl rfl
  exact q_4
  apply N_takeQ (i := 17) hns hfr rfl rfl (by kernel_rfl) hQ rfl rfl rfl
  exact q_5
  refine N_listed (l2 := #[true, true, true, true, false, true, true, true, true, true, true, true, true, true, true, false, true, true, false, false, false, false, false, false, false, false, false, false, false, false, false, false, false, false, false, false, false, false, false, false, false, false, false, false, false, false, false, false, false, false, false, false, false, false, false, false, false, false, false, false, false, false, false, false, false, false, false, false, false, false, false, false, false, false, false, false, false, false, false, false, false, false, false, false, false, false, false, false, false, false, false, false, false, false, false, false, false, false, false, false, false, false, false, false, false, false, false, false, false, false, false, false, false, false, false, false, false]) (by kernel_rfl) ?_
  apply N_takeQ (i := 18) hns hfr rfl rfl (by kernel_rfl) hQ rfl rfl rfl
  exact q_4
  apply N_takeQ (i := 19) hns hfr rfl rfl (by kernel_rfl) hQ rfl rfl rfl
  exact q_5
  apply N_takeQ (i := 20) hns hfr rfl rfl (by kernel_rfl) hQ rfl rfl rfl
  exact q_12
  apply N_takeQ (i := 21) hns hfr rfl rfl (by kernel_rfl) hQ rfl rfl rfl
  exact q_4
  apply N_takeQ (i := 22) hns hfr rfl rfl (by kernel_rfl) hQ rfl rfl rfl
  exact q_5
  apply N_takeQ (i := 23) hns hfr rfl rfl (by kernel_rfl) hQ rfl rfl rfl
  exact q_4
  apply N_takeQ (i := 24) hns hfr rfl rfl (by kernel_rfl) hQ rfl rfl rfl
  exact q_5
  apply N_takeQ (i := 25) hns hfr rfl rfl (by kernel_rfl) hQ rfl rfl rfl
  exact q_12
  refine N_listed (l2 := #[true, true, true, true, false, true, true, true, true, true, true, true, true, true, true, false, true, true, true, true, true, true, true, true, true, true, false, false, false, false, false, false, false, false, false, false, false, false, false, false, false, false, false, false, false, false, false, false, false, false, false, false, false, false, false, false, false, false, false, false, false, false, false, false, false, false, false, false, false, false, false, false, false, false, false, false, false, false, false, false, false, false, false, false, false, false, false, false, false, false, false, false, false, false, false, false, false, false, false, false, false, false, false, false, false, false, false, false, false, false, false, false, false, false, false, false, false]) (by kernel_rfl) ?_
  apply N_takeQ (i := 27) hns hfr rfl rfl (by kernel_rfl) hQ rfl rfl rfl
  exact q_4
  apply N_takeQ (i := 28) hns hfr rfl rfl (by kernel_rfl) hQ rfl rfl rfl
  exact q_5
  apply N_takeQ (i := 29) hns hfr rfl rfl (by kernel_rfl) hQ rfl rfl rfl
  exact q_4
  apply N_takeQ (i := 30) hns hfr rfl rfl (by kernel_rfl) hQ rfl rfl rfl
  exact q_5
  apply N_takeQ (i := 31) hns hfr rfl rfl (by kernel_rfl) hQ rfl rfl rfl
  exact q_12
  apply N_takeQ (i := 32) hns hfr rfl rfl (by kernel_rfl) hQ rfl rfl rfl
  exact q_4
  apply N_takeQ (i := 33) hns hfr rfl rfl (by kernel_rfl) hQ rfl rfl rfl
  exact q_5
  apply N_takeQ (i := 34) hns hfr rfl rfl (by kernel_rfl) hQ rfl rfl rfl
  exact q_4
  refine N_listed (l2 := #[true, true, true, true, false, true, true, true, true, true, true, true, true, true, true, false, true, true, true, true, true, true, true, true, true, true, false, true, true, true, true, true, true, true, true, false, false, false, false, false, false, false, false, false, false, false, false, false, false, false, false, false, false, false, false, false, false, false, false, false, false, false, false, false, false, false, false, false, false, false, false, false, false, false, false, false, false, false, false, false, false, false, false, false, false, false, false, false, false, false, false, false, false, false, false, false, false, false, false, false, false, false, false, false, false, false, false, false, false, false, false, false, false, false, false, false, false]) (by kernel_rfl) ?_
  apply N_takeQ (i := 35) hns hfr rfl rfl (by kernel_rfl) hQ rfl rfl rfl
  exact q_5
  apply N_takeQ (i := 36) hns hfr rfl rfl (by kernel_rfl) hQ rfl rfl rfl
  exact q_12
  apply N_takeQ (i := 38) hns hfr rfl rfl (by kernel_rfl) hQ rfl rfl rfl
  exact q_4
  apply N_takeQ (i := 39) hns hfr rfl rfl (by kernel_rfl) hQ rfl rfl rfl
  exact q_5
  apply N_takeQ (i := 40) hns hfr rfl rfl (by kernel_rfl) hQ rfl rfl rfl
  exact q_4
  apply N_takeQ (i := 41) hns hfr rfl rfl (by kernel_rfl) hQ rfl rfl rfl
  exact q_5
  apply N_takeQ (i := 42) hns hfr rfl rfl (by kernel_rfl) hQ rfl rfl rfl
  exact q_12
  apply N_takeQ (i := 43) hns hfr rfl rfl (by kernel_rfl) hQ rfl rfl rfl
  exact q_4
  refine N_listed (l2 := #[true, true, true, true, false, true, true, true, true, true, true, true, true, true, true, false, true, true, true, true, true, true, true, true, true, true, false, true, true, true, true, true, true, true, true, true, true, false, true, true, true, true, true, true, false, false, false, false, false, false, false, false, false, false, false, false, false, false, false, false, false, false, false, false, false, false, false, false, false, false, false, false, false, false, false, false, false, false, false, false, false, false, false, false, false, false, false, false, false, false, false, false, false, false, false, false, false, false, false, false, false, false, false, false, false, false, false, false, false, false, false, false, false, false, false, false, false]) (by kernel_rfl) ?_
  apply N_takeQ (i := 44) hns hfr rfl rfl (by kernel_rfl) hQ rfl rfl rfl
  exact q_5
  apply N_takeQ (i := 45) hns hfr rfl rfl (by kernel_rfl) hQ rfl rfl rfl
  exact q_4
  apply N_takeQ (i := 46) hns hfr rfl rfl (by kernel_rfl) hQ rfl rfl rfl
  exact q_5
  apply N_takeQ (i := 47) hns hfr rfl rfl (by kernel_rfl) hQ rfl rfl rfl
  exact q_12
  apply N_takeQ (i := 49) hns hfr rfl rfl (by kernel_rfl) hQ rfl rfl rfl
  exact q_4
  apply N_takeQ (i := 50) hns hfr rfl rfl (by kernel_rfl) hQ rfl rfl rfl
  exact q_5
  apply N_takeQ (i := 51) hns hfr rfl rfl (by kernel_rfl) hQ rfl rfl rfl
  exact q_4
  apply N_takeQ (i := 52) hns hfr rfl rfl (by kernel_rfl) hQ rfl rfl rfl
  exact q_5
  refine N_listed (l2 := #[true, true, true, true, false, true, true, true, true, true, true, true, true, true, true, false, true, true, true, true, true, true, true, true, true, true, false, true, true, true, true, true, true, true, true, true, true, false, true, true, true, true, true, true, true, true, true, true, false, true, true, true, true, false, false, false, false, false, false, false, false, false, false, false, false, false, false, false, false, false, false, false, false, false, false, false, false, false, false, false, false, false, false, false, false, false, false, false, false, false, false, false, false, false, false, false, false, false, false, false, false, false, false, false, false, false, false, false, false, false, false, false, false, false, false, false, false]) (by kernel_rfl) ?_
  apply N_takeQ (i := 53) hns hfr rfl rfl (by kernel_rfl) hQ rfl rfl rfl
  exact q_12
  apply N_takeQ (i := 54) hns hfr rfl rfl (by kernel_rfl) hQ rfl rfl rfl
  exact q_4
  apply N_takeQ (i := 55) hns hfr rfl rfl (by kernel_rfl) hQ rfl rfl rfl
  exact q_5
  apply N_takeQ (i := 56) hns hfr rfl rfl (by kernel_rfl) hQ rfl rfl rfl
  exact q_4
  apply N_takeQ (i := 57) hns hfr rfl rfl (by kernel_rfl) hQ rfl rfl rfl
  exact q_5
  apply N_takeQ (i := 58) hns hfr rfl rfl (by kernel_rfl) hQ rfl rfl rfl
  exact q_12
  apply N_takeQ (i := 60) hns hfr rfl rfl (by kernel_rfl) hQ rfl rfl rfl
  exact q_4
  apply N_takeQ (i := 61) hns hfr rfl rfl (by kernel_rfl) hQ rfl rfl rfl
  exact q_5
  refine N_listed (l2 := #[true, true, true, true, false, true, true, true, true, true, true, true, true, true, true, false, true, true, true, true, true, true, true, true, true, true, false, true, true, true, true, true, true, true, true, true, true, false, true, true, true, true, true, true, true, true, true, true, false, true, true, true, true, true, true, true, true, true, true, false, true, true, false, false, false, false, false, false, false, false, false, false, false, false, false, false, false, false, false, false, false, false, false, false, false, false, false, false, false, false, false, false, false, false, false, false, false, false, false, false, false, false, false, false, false, false, false, false, false, false, false, false, false, false, false, false, false]) (by kernel_rfl) ?_
  apply N_takeQ (i := 62) hns hfr rfl rfl (by kernel_rfl) hQ rfl rfl rfl
  exact q_4
  apply N_takeQ (i := 63) hns hfr rfl rfl (by kernel_rfl) hQ rfl rfl rfl
  exact q_5
  apply N_takeQ (i := 64) hns hfr rfl rfl (by kernel_rfl) hQ rfl rfl rfl
  exact q_12
  apply N_takeQ (i := 65) hns hfr rfl rfl (by kernel_rfl) hQ rfl rfl rfl
  exact q_4
  apply N_takeQ (i := 66) hns hfr rfl rfl (by kernel_rfl) hQ rfl rfl rfl
  exact q_5
  apply N_takeQ (i := 67) hns hfr rfl rfl (by kernel_rfl) hQ rfl rfl rfl
  exact q_4
  apply N_takeQ (i := 68) hns hfr rfl rfl (by kernel_rfl) hQ rfl rfl rfl
  exact q_5
  apply N_takeQ (i := 69) hns hfr rfl rfl (by kernel_rfl) hQ rfl rfl rfl
  exact q_12
  refine N_listed (l2 := #[true, true, true, true, false, true, true, true, true, true, true, true, true, true, true, false, true, true, true, true, true, true, true, true, true, true, false, true, true, true, true, true, true, true, true, true, true, false, true, true, true, true, true, true, true, true, true, true, false, true, true, true, true, true, true, true, true, true, true, false, true, true, true, true, true, true, true, true, true, true, false, false, false, false, false, false, false, false, false, false, false, false, false, false, false, false, false, false, false, false, false, false, false, false, false, false, false, false, false, false, false, false, false, false, false, false, false, false, false, false, false, false, false, false, false, false, false]) (by kernel_rfl) ?_
  apply N_takeQ (i := 71) hns hfr rfl rfl (by kernel_rfl) hQ rfl rfl rfl
  exact q_4
  apply N_takeQ (i := 72) hns hfr rfl rfl (by kernel_rfl) hQ rfl rfl rfl
  exact q_5
  apply N_takeQ (i := 73) hns hfr rfl rfl (by kernel_rfl) hQ rfl rfl rfl
  exact q_20
  apply N_takeQ (i := 78) hns hfr rfl rfl (by kernel_rfl) hQ rfl rfl rfl
  exact q_4
  apply N_takeQ (i := 79) hns hfr rfl rfl (by kernel_rfl) hQ rfl rfl rfl
  exact q_5
  apply N_takeQ (i := 86) hns hfr rfl rfl (by kernel_rfl) hQ rfl rfl rfl
  exact q_4
  apply N_takeQ (i := 87) hns hfr rfl rfl (by kernel_rfl) hQ rfl rfl rfl
  exact q_5
  apply N_takeQ (i := 88) hns hfr rfl rfl (by kernel_rfl) hQ rfl rfl rfl
  exact q_4
  refine N_listed (l2 := #[true, true, true, true, false, true, true, true, true, true, true, true, true, true, true, false, true, true, true, true, true, true, true, true, true, true, false, true, true, true, true, true, true, true, true, true, true, false, true, true, true, true, true, true, true, true, true, true, false, true, true, true, true, true, true, true, true, true, true, false, true, true, true, true, true, true, true, true, true, true, false, true, true, true, false, false, false, false, true, true, false, false, false, false, false, false, true, true, true, false, false, false, false, false, false, false, false, false, false, false, false, false, false, false, false, false, false, false, false, false, false, false, false, false, false, false, false]) (by kernel_rfl) ?_
  apply N_takeQ (i := 89) hns hfr rfl rfl (by kernel_rfl) hQ rfl rfl rfl
  exact q_5
  apply N_takeQ (i := 90) hns hfr rfl rfl (by kernel_rfl) hQ rfl rfl rfl
  exact q_12
  apply N_takeQ (i := 91) hns hfr rfl rfl (by kernel_rfl) hQ rfl rfl rfl
  exact q_4
  apply N_takeQ (i := 92) hns hfr rfl rfl (by kernel_rfl) hQ rfl rfl rfl
  exact q_5
  apply N_takeQ (i := 93) hns hfr rfl rfl (by kernel_rfl) hQ rfl rfl rfl
  exact q_4
  apply N_takeQ (i := 94) hns hfr rfl rfl (by kernel_rfl) hQ rfl rfl rfl
  exact q_5
  apply N_takeQ (i := 95) hns hfr rfl rfl (by kernel_rfl) hQ rfl rfl rfl
  exact q_12
  apply N_takeQ (i := 97) hns hfr rfl rfl (by kernel_rfl) hQ rfl rfl rfl
  exact q_4
  refine N_listed (l2 := #[true, true, true, true, false, true, true, true, true, true, true, true, true, true, true, false, true, true, true, true, true, true, true, true, true, true, false, true, true, true, true, true, true, true, true, true, true, false, true, true, true, true, true, true, true, true, true, true, false, true, true, true, true, true, true, true, true, true, true, false, true, true, true, true, true, true, true, true, true, true, false, true, true, true, false, false, false, false, true, true, false, false, false, false, false, false, true, true, true, true, true, true, true, true, true, true, false, true, false, false, false, false, false, false, false, false, false, false, false, false, false, false, false, false, false, false, false]) (by kernel_rfl) ?_
  apply N_takeQ (i := 98) hns hfr rfl rfl (by kernel_rfl) hQ rfl rfl rfl
  exact q_5
  apply N_takeQ (i := 99) hns hfr rfl rfl (by kernel_rfl) hQ rfl rfl rfl
  exact q_4
  apply N_takeQ (i := 100) hns hfr rfl rfl (by kernel_rfl) hQ rfl rfl rfl
  exact q_5
  apply N_takeQ (i := 102) hns hfr rfl rfl (by kernel_rfl) hQ rfl rfl rfl
  exact q_4
  apply N_takeQ (i := 103) hns hfr rfl rfl (by kernel_rfl) hQ rfl rfl rfl
  exact q_5
  apply N_takeQ (i := 104) hns hfr rfl rfl (by kernel_rfl) hQ rfl rfl rfl
  exact q_4
  apply N_takeQ (i := 105) hns hfr rfl rfl (by kernel_rfl) hQ rfl rfl rfl
  exact q_5
  apply N_takeQ (i := 107) hns hfr rfl rfl (by kernel_rfl) hQ rfl rfl rfl
  exact q_4
  refine N_listed (l2 := #[true, true, true, true, false, true, true, true, true, true, true, true, true, true, true, false, true, true, true, true, true, true, true, true, true, true, false, true, true, true, true, true, true, true, true, true, true, false, true, true, true, true, true, true, true, true, true, true, false, true, true, true, true, true, true, true, true, true, true, false, true, true, true, true, true, true, true, true, true, true, false, true, true, true, false, false, false, false, true, true, false, false, false, false, false, false, true, true, true, true, true, true, true, true, true, true, false, true, true, true, true, false, true, true, true, true, false, true, false, false, false, false, false, false, false, false, false]) (by kernel_rfl) ?_
  apply N_takeQ (i := 108) hns hfr rfl rfl (by kernel_rfl) hQ rfl rfl rfl
  exact q_5
  apply N_takeQ (i := 110) hns hfr rfl rfl (by kernel_rfl) hQ rfl rfl rfl
  exact q_4
  apply N_takeQ (i := 111) hns hfr rfl rfl (by kernel_rfl) hQ rfl rfl rfl
  exact q_5
  refine N_listed (l2 := #[true, true, true, true, false, true, true, true, true, true, true, true, true, true, true, false, true, true, true, true, true, true, true, true, true, true, false, true, true, true, true, true, true, true, true, true, true, false, true, true, true, true, true, true, true, true, true, true, false, true, true, true, true, true, true, true, true, true, true, false, true, true, true, true, true, true, true, true, true, true, false, true, true, true, false, false, false, false, true, true, false, false, false, false, false, false, true, true, true, true, true, true, true, true, true, true, false, true, true, true, true, false, true, true, true, true, false, true, true, false, true, true, false, false, false, false, false]) (by kernel_rfl) ?_
  exact N_weakenS (Wk_selS (e1 := [(2, .iptr [uD pa, iD pb, uD hop, iD pref, iD met, .sl (path.flatMap u1D) path.length, .sl (com.flatMap u1D) com.length, uD peer, uD pid, bD ext, uD orig, .sl (clus.flatMap u1D) clus.length, iD ses] 0), (3, .iptr [uD pa, iD pb, uD hop, iD pref, iD met, .sl (path.flatMap u1D) path.length, .sl (com.flatMap u1D) com.length, uD peer, uD pid, bD ext, uD orig, .sl (clus.flatMap u1D) clus.length, iD ses] 0), (6, .agg [.d (uD pa), .d (iD pb)]), (8, .agg [.d (uD pa), .d (iD pb)]), (14, boolA false), (19, boolA false), (25, boolA false), (30, boolA false), (36, boolA false), (41, boolA false), (47, boolA false), (52, boolA false), (58, boolA false), (63, boolA false), (69, boolA false), (74, boolA false), (78, boolA (!ext)), (84, boolA ext), (95, boolA false), (100, boolA false), (103, .d (.sl (path.flatMap u1D) path.length)), (105, .d (.sl (path.flatMap u1D) path.length)), (108, .d (.sl (com.flatMap u1D) com.length)), (110, .d (.sl (com.flatMap u1D) com.length)), (113, .d (.sl (clus.flatMap u1D) clus.length)), (116, .d (.sl (clus.flatMap u1D) clus.length))]) (h1 := []) ⟨rfl, rfl, rfl, rfl, rfl, rfl, rfl, rfl, rfl, rfl, rfl, rfl, rfl, rfl, rfl, rfl, rfl, rfl, rfl, rfl, rfl, rfl, rfl, rfl, rfl, rfl,  trivial⟩ trivial) H
set_option maxHeartbeats 16000000 in
theorem cmpTail_false (pa pb hop pref met peer pid orig ses : Int) (path com clus : List Int) (h1 : path.length * 4 ≤ 140737488351232) (h2 : com.length * 4 ≤ 140737488351232) (h3 : clus.length * 4 ≤ 140737488351232) (Q : Post) (hQ : NoPanic Q) (HQ : ∀ e h, look e 4 = some (intA 0) → Q .normal e h) : AAny Try.prog 121 cmpOps Q [] 26 #[true, true, true, true, false, true, true, true, true, true, true, true, true, true, true, false, true, true, true, true, true, true, true, true, true, true, false, true, true, true, true, true, true, true, true, true, true, false, true, true, true, true, true, true, true, true, true, true, false, true, true, true, true, true, true, true, true, true, true, false, true, true, true, true, true, true, true, true, true, true, false, true, true, true, false, false, false, false, true, true, false, false, false, false, false, false, true, true, true, true, true, true, true, true, true, true, false, true, true, true, true, false, true, true, true, true, false, true, true, false, true, true, false, false, false, false, false] [(2, .iptr [uD pa, iD pb, uD hop, iD pref, iD met, .sl (path.flatMap u1D) path.length, .sl (com.flatMap u1D) com.length, uD peer, uD pid, bD false, uD orig, .sl (clus.flatMap u1D) clus.length, iD ses] 0), (3, .iptr [uD pa, iD pb, uD hop, iD pref, iD met, .sl (path.flatMap u1D) path.length, .sl (com.flatMap u1D) com.length, uD peer, uD pid, bD false, uD orig, .sl (clus.flatMap u1D) clus.length, iD ses] 0), (6, .agg [.d (uD pa), .d (iD pb)]), (8, .agg [.d (uD pa), .d (iD pb)]), (14, boolA false), (19, boolA false), (25, boolA false), (30, boolA false), (36, boolA false), (41, boolA false), (47, boolA false), (52, boolA false), (58, boolA false), (63, boolA false), (69, boolA false), (74, boolA false), (78, boolA (!false)), (84, boolA false), (95, boolA false), (100, boolA false), (103, .d (.sl (path.flatMap u1D) path.length)), (105, .d (.sl (path.flatMap u1D) path.length)), (108, .d (.sl (com.flatMap u1D) com.length)), (110, .d (.sl (com.flatMap u1D) com.length)), (113, .d (.sl (clus.flatMap u1D) clus.length)), (116, .d (.sl (clus.flatMap u1D) clus.length))] [] := by
  have hp := prefix0_A ⟨pa, pb⟩
  have hn1 := numbers0_A path (by omega)
  have hn2 := numbers0_A com (by omega)
  have hn3 := numbers0_A clus (by omega)
  have hws := words_A clus h3
  have hf := first0_A 12 (by decide)
  refine N_one (j := 4) (by kernel_rfl) ?_
  refine T_call rfl rfl rfl rfl rfl rfl hp (fun _ => rfl) ?_
  refine N_one (j := 15) (by kernel_rfl) ?_
  refine T_call rfl rfl rfl rfl rfl rfl one0_A (fun _ => rfl) ?_
  refine N_one (j := 26) (by kernel_rfl) ?_
  refine T_call rfl rfl rfl rfl rfl rfl one0_A (fun _ => rfl) ?_
  refine N_one (j := 37) (by kernel_rfl) ?_
  refine T_call rfl rfl rfl rfl rfl rfl one0_A (fun _ => rfl) ?_
  refine N_one (j := 48) (by kernel_rfl) ?_
  refine T_call rfl rfl rfl rfl rfl rfl one0_A (fun _ => rfl) ?_
  refine N_one (j := 59) (by kernel_rfl) ?_
  refine T_call rfl rfl rfl rfl rfl rfl one0_A (fun _ => rfl) ?_
  refine N_one (j := 70) (by kernel_rfl) ?_
  refine T_call rfl rfl rfl rfl rfl rfl one0_A (fun _ => rfl) ?_
  apply N_take (i := 74) rfl (by kernel_rfl) (by kernel_rfl) (by kernel_rfl) hQ rfl rfl rfl
  exact q_1
  apply N_take (i := 75) rfl (by kernel_rfl) (by kernel_rfl) (by kernel_rfl) hQ rfl rfl rfl
  exact q_4
  apply N_take (i := 76) rfl (by kernel_rfl) (by kernel_rfl) (by kernel_rfl) hQ rfl rfl rfl
  exact q_5
  apply N_take (i := 77) rfl (by kernel_rfl) (by kernel_rfl) (by kernel_rfl) hQ rfl rfl rfl
  first | exact q_25 | exact q_26
  refine N_listed (l2 := #[true, true, true, true, true, true, true, true, true, true, true, true, true, true, true, true, true, true, true, true, true, true, true, true, true, true, true, true, true, true, true, true, true, true, true, true, true, true, true, true, true, true, true, true, true, true, true, true, true, true, true, true, true, true, true, true, true, true, true, true, true, true, true, true, true, true, true, true, true, true, true, true, true, true, true, true, true, true, true, true, false, false, false, false, false, false, true, true, true, true, true, true, true, true, true, true, false, true, true, true, true, false, true, true, true, true, false, true, true, false, true, true, false, false, false, false, false]) (by kernel_rfl) ?_
  apply N_take (i := 80) rfl (by kernel_rfl) (by kernel_rfl) (by kernel_rfl) hQ rfl rfl rfl
  exact q_1
  refine N_skip (i := 81) rfl (by kernel_rfl) (by kernel_rfl) (by kernel_rfl) hQ rfl rfl rfl ?_
  refine N_skip (i := 82) rfl (by kernel_rfl) (by kernel_rfl) (by kernel_rfl) hQ rfl rfl rfl ?_
  refine N_skip (i := 83) rfl (by kernel_rfl) (by kernel_rfl) (by kernel_rfl) hQ rfl rfl rfl ?_
  apply N_take (i := 84) rfl (by kernel_rfl) (by kernel_rfl) (by kernel_rfl) hQ rfl rfl rfl
  first | exact q_25 | exact q_26
  refine N_one (j := 85) (by kernel_rfl) ?_
  refine T_call rfl rfl rfl rfl rfl rfl one0_A (fun _ => rfl) ?_
  refine N_one (j := 96) (by kernel_rfl) ?_
  refine T_call rfl rfl rfl rfl rfl rfl one0_A (fun _ => rfl) ?_
  refine N_one (j := 101) (by kernel_rfl) ?_
  refine T_call rfl rfl rfl rfl rfl rfl hn1 (fun _ => rfl) ?_
  refine N_one (j := 106) (by kernel_rfl) ?_
  refine T_call rfl rfl rfl rfl rfl rfl hn2 (fun _ => rfl) ?_
  refine N_one (j := 109) (by kernel_rfl) ?_
  refine T_cRow rfl rfl rfl rfl rfl rfl hws rfl ?_
  refine N_weakenS (Wk_freezeS (id := 950) rfl) ?_
  refine N_one (j := 112) (by kernel_rfl) ?_
  refine T_cRow rfl rfl rfl rfl rfl rfl hws rfl ?_
  refine N_weakenS (Wk_freezeS (id := 950) rfl) ?_
  refine N_one (j := 113) (by kernel_rfl) ?_
  refine T_call rfl rfl rfl rfl rfl rfl hn3 (fun _ => rfl) ?_
  refine N_one (j := 114) (by kernel_rfl) ?_
  refine T_slice (xs := List.replicate 12 (intA 0)) (ds := List.replicate 12 (iD 0)) tabOk rfl rfl rfl rfl rfl rfl rfl rfl rfl rfl (by kernel_rfl) (by kernel_rfl) ?_
  refine N_weakenS (Wk_freezeS (id := 119) rfl) ?_
  refine N_one (j := 115) (by kernel_rfl) ?_
  refine T_call rfl rfl rfl rfl rfl rfl hf (fun _ => rfl) ?_
  apply N_take (i := 116) rfl (by kernel_rfl) (by kernel_rfl) (by kernel_rfl) hQ rfl rfl rfl
  exact q_2
  refine N_done (by kernel_rfl) ?_
  exact HQ _ _ rfl
set_option maxHeartbeats 16000000 in
theorem cmpTail_true (pa pb hop pref met peer pid orig ses : Int) (path com clus : List Int) (h1 : path.length * 4 ≤ 140737488351232) (h2 : com.length * 4 ≤ 140737488351232) (h3 : clus.length * 4 ≤ 140737488351232) (Q : Post) (hQ : NoPanic Q) (HQ : ∀ e h, look e 4 = some (intA 0) → Q .normal e h) : AAny Try.prog 121 cmpOps Q [] 26 #[true, true, true, true, false, true, true, true, true, true, true, true, true, true, true, false, true, true, true, true, true, true, true, true, true, true, false, true, true, true, true, true, true, true, true, true, true, false, true, true, true, true, true, true, true, true, true, true, false, true, true, true, true, true, true, true, true, true, true, false, true, true, true, true, true, true, true, true, true, true, false, true, true, true, false, false, false, false, true, true, false, false, false, false, false, false, true, true, true, true, true, true, true, true, true, true, false, true, true, true, true, false, true, true, true, true, false, true, true, false, true, true, false, false, false, false, false] [(2, .iptr [uD pa, iD pb, uD hop, iD pref, iD met, .sl (path.flatMap u1D) path.length, .sl (com.flatMap u1D) com.length, uD peer, uD pid, bD true, uD orig, .sl (clus.flatMap u1D) clus.length, iD ses] 0), (3, .iptr [uD pa, iD pb, uD hop, iD pref, iD met, .sl (path.flatMap u1D) path.length, .sl (com.flatMap u1D) com.length, uD peer, uD pid, bD true, uD orig, .sl (clus.flatMap u1D) clus.length, iD ses] 0), (6, .agg [.d (uD pa), .d (iD pb)]), (8, .agg [.d (uD pa), .d (iD pb)]), (14, boolA false), (19, boolA false), (25, boolA false), (30, boolA false), (36, boolA false), (41, boolA false), (47, boolA false), (52, boolA false), (58, boolA false), (63, boolA false), (69, boolA false), (74, boolA false), (78, boolA (!true)), (84, boolA true), (95, boolA false), (100, boolA false), (103, .d (.sl (path.flatMap u1D) path.length)), (105, .d (.sl (path.flatMap u1D) path.length)), (108, .d (.sl (com.flatMap u1D) com.length)), (110, .d (.sl (com.flatMap u1D) com.length)), (113, .d (.sl (clus.flatMap u1D) clus.length)), (116, .d (.sl (clus.flatMap u1D) clus.length))] [] := by
  have hp := prefix0_A ⟨pa, pb⟩
  have hn1 := numbers0_A path (by omega)
  have hn2 := numbers0_A com (by omega)
  have hn3 := numbers0_A clus (by omega)
  have hws := words_A clus h3
  have hf := first0_A 12 (by decide)
  refine N_one (j := 4) (by kernel_rfl) ?_
  refine T_call rfl rfl rfl rfl rfl rfl hp (fun _ => rfl) ?_
  refine N_one (j := 15) (by kernel_rfl) ?_
  refine T_call rfl rfl rfl rfl rfl rfl one0_A (fun _ => rfl) ?_
  refine N_one (j := 26) (by kernel_rfl) ?_
  refine T_call rfl rfl rfl rfl rfl rfl one0_A (fun _ => rfl) ?_
  refine N_one (j := 37) (by kernel_rfl) ?_
  refine T_call rfl rfl rfl rfl rfl rfl one0_A (fun _ => rfl) ?_
  refine N_one (j := 48) (by kernel_rfl) ?_
  refine T_call rfl rfl rfl rfl rfl rfl one0_A (fun _ => rfl) ?_
  refine N_one (j := 59) (by kernel_rfl) ?_
  refine T_call rfl rfl rfl rfl rfl rfl one0_A (fun _ => rfl) ?_
  refine N_one (j := 70) (by kernel_rfl) ?_
  refine T_call rfl rfl rfl rfl rfl rfl one0_A (fun _ => rfl) ?_
  apply N_take (i := 74) rfl (by kernel_rfl) (by kernel_rfl) (by kernel_rfl) hQ rfl rfl rfl
  exact q_1
  refine N_skip (i := 75) rfl (by kernel_rfl) (by kernel_rfl) (by kernel_rfl) hQ rfl rfl rfl ?_
  refine N_skip (i := 76) rfl (by kernel_rfl) (by kernel_rfl) (by kernel_rfl) hQ rfl rfl rfl ?_
  apply N_take (i := 77) rfl (by kernel_rfl) (by kernel_rfl) (by kernel_rfl) hQ rfl rfl rfl
  first | exact q_25 | exact q_26
  refine N_listed (l2 := #[true, true, true, true, true, true, true, true, true, true, true, true, true, true, true, true, true, true, true, true, true, true, true, true, true, true, true, true, true, true, true, true, true, true, true, true, true, true, true, true, true, true, true, true, true, true, true, true, true, true, true, true, true, true, true, true, true, true, true, true, true, true, true, true, true, true, true, true, true, true, true, true, true, true, true, true, true, true, true, true, false, false, false, false, false, false, true, true, true, true, true, true, true, true, true, true, false, true, true, true, true, false, true, true, true, true, false, true, true, false, true, true, false, false, false, false, false]) (by kernel_rfl) ?_
  apply N_take (i := 80) rfl (by kernel_rfl) (by kernel_rfl) (by kernel_rfl) hQ rfl rfl rfl
  exact q_1
  apply N_take (i := 81) rfl (by kernel_rfl) (by kernel_rfl) (by kernel_rfl) hQ rfl rfl rfl
  exact q_4
  apply N_take (i := 82) rfl (by kernel_rfl) (by kernel_rfl) (by kernel_rfl) hQ rfl rfl rfl
  exact q_5
  apply N_take (i := 83) rfl (by kernel_rfl) (by kernel_rfl) (by kernel_rfl) hQ rfl rfl rfl
  exact q_20
  apply N_take (i := 84) rfl (by kernel_rfl) (by kernel_rfl) (by kernel_rfl) hQ rfl rfl rfl
  first | exact q_25 | exact q_26
  refine N_one (j := 85) (by kernel_rfl) ?_
  refine T_call rfl rfl rfl rfl rfl rfl one0_A (fun _ => rfl) ?_
  refine N_one (j := 96) (by kernel_rfl) ?_
  refine T_call rfl rfl rfl rfl rfl rfl one0_A (fun _ => rfl) ?_
  refine N_one (j := 101) (by kernel_rfl) ?_
  refine T_call rfl rfl rfl rfl rfl rfl hn1 (fun _ => rfl) ?_
  refine N_one (j := 106) (by kernel_rfl) ?_
  refine T_call rfl rfl rfl rfl rfl rfl hn2 (fun _ => rfl) ?_
  refine N_one (j := 109) (by kernel_rfl) ?_
  refine T_cRow rfl rfl rfl rfl rfl rfl hws rfl ?_
  refine N_weakenS (Wk_freezeS (id := 950) rfl) ?_
  refine N_one (j := 112) (by kernel_rfl) ?_
  refine T_cRow rfl rfl rfl rfl rfl rfl hws rfl ?_
  refine N_weakenS (Wk_freezeS (id := 950) rfl) ?_
  refine N_one (j := 113) (by kernel_rfl) ?_
  refine T_call rfl rfl rfl rfl rfl rfl hn3 (fun _ => rfl) ?_
  refine N_one (j := 114) (by kernel_rfl) ?_
  refine T_slice (xs := List.replicate 12 (intA 0)) (ds := List.replicate 12 (iD 0)) tabOk rfl rfl rfl rfl rfl rfl rfl rfl rfl rfl (by kernel_rfl) (by kernel_rfl) ?_
  refine N_weakenS (Wk_freezeS (id := 119) rfl) ?_
  refine N_one (j := 115) (by kernel_rfl) ?_
  refine T_call rfl rfl rfl rfl rfl rfl hf (fun _ => rfl) ?_
  apply N_take (i := 116) rfl (by kernel_rfl) (by kernel_rfl) (by kernel_rfl) hQ rfl rfl rfl
  exact q_2
  refine N_done (by kernel_rfl) ?_
  exact HQ _ _ rfl
set_option maxHeartbeats 16000000 in
theorem cmpAdv0_A (x : Adv) (hx : x.ok) : ACall Try.prog 24 [advA x, advA x] [] (Just (intA 0)) := by
  have h1 : x.path.length * 4 ≤ 140737488351232 := hx.b1
  have h2 : x.com.length * 4 ≤ 140737488351232 := hx.b2
  have h3 : x.clus.length * 4 ≤ 140737488351232 := hx.b3
  clear hx
  obtain ⟨⟨pa, pb⟩, hop, pref, met, path, com, peer, pid, ext, orig, clus, ses⟩ := x
  dsimp only at h1 h2 h3
  refine ACall_of tabOk Try.func24 rfl Try.ntmps24 (congrArg Array.toList Try.results24) (by kernel_rfl) rfl ?_
  refine A_seq ?_
  refine R_list ?_
  refine q_d ?_
  refine O_weaken (Wk_freezeV (id := 2) (ds := [uD pa, iD pb, uD hop, iD pref, iD met, .sl (path.flatMap u1D) path.length, .sl (com.flatMap u1D) com.length, uD peer, uD pid, bD ext, uD orig, .sl (clus.flatMap u1D) clus.length, iD ses]) rfl rfl) ?_
  refine q_d ?_
  refine O_weaken (Wk_freezeV (id := 3) (ds := [uD pa, iD pb, uD hop, iD pref, iD met, .sl (path.flatMap u1D) path.length, .sl (com.flatMap u1D) com.length, uD peer, uD pid, bD ext, uD orig, .sl (clus.flatMap u1D) clus.length, iD ses]) rfl rfl) ?_
  repeat (first | refine q_Z ?_ | ((first | apply O_y rfl rfl rfl | apply Q_y rfl rfl rfl); (first | exact q_A | exact q_5 | exact q_B)) | refine q_d ?_ | refine q_a ?_ | refine q_b ?_ | refine q_c ?_ | refine A_ct rfl ?_ | refine A_cf rfl ?_ | refine q_W ?_)
  refine N_begin [] mixed ?_
  refine N_weakenS (Wk_selS (e1 := [(2, .iptr [uD pa, iD pb, uD hop, iD pref, iD met, .sl (path.flatMap u1D) path.length, .sl (com.flatMap u1D) com.length, uD peer, uD pid, bD ext, uD orig, .sl (clus.flatMap u1D) clus.length, iD ses] 0), (3, .iptr [uD pa, iD pb, uD hop, iD pref, iD met, .sl (path.flatMap u1D) path.length, .sl (com.flatMap u1D) com.length, uD peer, uD pid, bD ext, uD orig, .sl (clus.flatMap u1D) clus.length, iD ses] 0)]) (h1 := []) ⟨rfl, rfl, trivial⟩ trivial) ?_
  refine cmpHead pa pb hop pref met peer pid orig ses path com clus ext _ (by repeat (first | exact np_post | apply np_then | apply np_in)) ?_
  have HQ : ∀ (Q : Post) (e : Env) (h : Heap), True := fun _ _ _ => trivial
  cases ext
  · refine cmpTail_false pa pb hop pref met peer pid orig ses path com clus h1 h2 h3 _ (by repeat (first | exact np_post | apply np_then | apply np_in)) fun e h h4 => ?_
    refine q_j ?_
    refine A_weaken (Wk_sel (e1 := [(4, intA 0)]) (h1 := []) ⟨h4, trivial⟩ trivial) ?_
    repeat (first | refine q_Z ?_ | ((first | apply O_y rfl rfl rfl | apply Q_y rfl rfl rfl); (first | exact q_A | exact q_5 | exact q_B)) | refine q_d ?_ | refine q_a ?_ | refine q_b ?_ | refine q_c ?_ | refine A_ct rfl ?_ | refine A_cf rfl ?_ | refine q_W ?_)
    exact X_ret rfl ⟨rfl, rfl⟩
  · refine cmpTail_true pa pb hop pref met peer pid orig ses path com clus h1 h2 h3 _ (by repeat (first | exact np_post | apply np_then | apply np_in)) fun e h h4 => ?_
    refine q_j ?_
    refine A_weaken (Wk_sel (e1 := [(4, intA 0)]) (h1 := []) ⟨h4, trivial⟩ trivial) ?_
    repeat (first | refine q_Z ?_ | ((first | apply O_y rfl rfl rfl | apply Q_y rfl rfl rfl); (first | exact q_A | exact q_5 | exact q_B)) | refine q_d ?_ | refine q_a ?_ | refine q_b ?_ | refine q_c ?_ | refine A_ct rfl ?_ | refine A_cf rfl ?_ | refine q_W ?_)
    exact X_ret rfl ⟨rfl, rfl⟩
set_option maxHeartbeats 4000000 in
theorem sameAdvs_A (l : List Adv) (hl : ∀ x ∈ l, x.ok) (hn : l.length ≤ 1000000) : ACall Try.prog 11 [advsA l, advsA l] [] (Just (boolA true)) := by
  refine ACall_of tabOk Try.func11 rfl Try.ntmps11 (congrArg Array.toList Try.results11) (by kernel_rfl) rfl ?_
  repeat (first | refine q_Z ?_ | refine R_quiet rfl mixed (by kernel_rfl) ?_ | ((first | apply O_y rfl rfl rfl | apply Q_y rfl rfl rfl); (first | exact q_A | exact q_5 | exact q_B | (first | exact R_neInt rfl rfl rfl | exact R_neStr rfl rfl rfl | exact R_neBool tabOk rfl rfl rfl rfl))) | refine q_d ?_ | refine q_a ?_ | refine q_b ?_ | refine q_c ?_ | refine A_ct rfl ?_ | refine A_cf rfl ?_ | refine q_W ?_)
  refine A_loop (fun k : Nat => [(0, advsA l), (1, advsA l), (5, intA (k : Int))]) (fun _ => []) (fun k => k ≤ l.length) (fun k => l.length - k) 0 (Nat.zero_le _) (Wk_sel ⟨rfl, rfl, rfl, trivial⟩ trivial) ?_
  intro k hkl
  try dsimp only
  by_cases hk : k < l.length
  · have hc := cmpAdv0_A l[k] (hl _ (List.getElem_mem hk))
    repeat (first | refine q_Z ?_ | refine R_quiet rfl mixed (by kernel_rfl) ?_ | ((first | apply O_y rfl rfl rfl | apply Q_y rfl rfl rfl); (first | exact q_A | exact R_loadi tabOk rfl rfl rfl rfl (by first | exact win_flat0 advD_len l k _ hk (by decide) | exact win_flat advD_len l k _ _ hk (by decide) | exact win_flat2 advD_len l k _ _ _ hk (by decide) | rfl) rfl rfl | exact q_B)) | refine q_d ?_ | refine q_a ?_ | refine q_b ?_ | refine q_c ?_ | refine A_ct rfl ?_ | refine A_cf rfl ?_ | refine q_W ?_ | refine Q_c rfl rfl rfl rfl rfl hc rfl (fun _ _ _ => val_mk _ _ _ _ _ rfl rfl) ?_)
    exact ⟨k + 1, by omega, by omega, Wk_sel ⟨rfl, rfl, rfl, trivial⟩ trivial⟩
  ·
    repeat (first | refine q_Z ?_ | refine R_quiet rfl mixed (by kernel_rfl) ?_ | ((first | apply O_y rfl rfl rfl | apply Q_y rfl rfl rfl); (first | exact q_A | exact q_5 | exact q_B)) | refine q_d ?_ | refine q_a ?_ | refine q_b ?_ | refine q_c ?_ | refine A_ct rfl ?_ | refine A_cf rfl ?_ | refine q_W ?_)
    exact X_ret rfl ⟨rfl, rfl⟩
end Go.Proofs.Ytblgdfcijkaimaa.Ab

/-
  Texts of a proof, one behind the other (part 29).
-/
import Derived.Test.YtmljmahlpcdhoaaPn0
import Derived.Test.YtmljmahlpcdhoaaPn1
import Derived.Test.YtmljmahlpcdhoaaPn4
import Derived.Test.YtmljmahlpcdhoaaPn19
import Derived.Test.YtmljmahlpcdhoaaPn20
import Derived.Test.YtmljmahlpcdhoaaPn26
import Derived.Test.YtmljmahlpcdhoaaPn27
set_option linter.unusedVariables false
set_option linter.unusedSimpArgs false
namespace Go.Proofs.Ytmljmahlpcdhoaa.Ab
set_option linter.unusedVariables false
set_option maxRecDepth 100000
open Go.RowKit Go.Lib
theorem eqV_me {s : Sh} {v : Value} (h : leafOk s v = true) : eqV v v = some true := by
  cases v <;> cases s <;> first | cases h; done | simp [eqV]
theorem eqCells_me {ks : List Sh} {xs : List Value} (h : leafsOk ks xs = true) : eqCells xs xs = some true := by
  induction ks generalizing xs with
  | nil =>
    cases xs with
    | nil => rfl
    | cons _ _ => cases h
  | cons k ks ih =>
    cases xs with
    | nil => cases h
    | cons x xs =>
      simp only [leafsOk, Bool.and_eq_true] at h
      simp [eqCells, eqV_me h.1, ih h.2]
theorem bb_ne (b : Bool) : bbin .neq b b = some false := by cases b <;> rfl
section
variable {P : Program} {T : List Nat} {e : Env} {h : Heap} {o : Oper} {tab : TTab}
theorem R_neMe {t u : TypeId} {x y : Operand} {cs : List AVal} {xs : List Value} {ks : List Sh} (TO : TabOk P tab) (hst : ∀ t, (tlook tab t).isSome = true → P.stoodInHeld t = false) (ho : o.op = .binOp .neq t x y u) (hx : aev e x = some (.agg cs)) (hy : aev e y = some (.agg cs))
    (h1 : scL cs = some xs) (hk : leafs tab 8 t = some ks) (hag : tagg tab t = some true) (hkx : leafsOk ks xs = true) (hg : P.eqGuardType P.depth t = false) : AYield P T e h o (.d (.sc (.bool false))) :=
  Y_eq TO hst ho hx hy h1 h1 hk hag hkx hkx hg (eqCells_me hkx) rfl
theorem R_eqMe {t u : TypeId} {x y : Operand} {cs : List AVal} {xs : List Value} {ks : List Sh} (TO : TabOk P tab) (hst : ∀ t, (tlook tab t).isSome = true → P.stoodInHeld t = false) (ho : o.op = .binOp .eql t x y u) (hx : aev e x = some (.agg cs)) (hy : aev e y = some (.agg cs))
    (h1 : scL cs = some xs) (hk : leafs tab 8 t = some ks) (hag : tagg tab t = some true) (hkx : leafsOk ks xs = true) (hg : P.eqGuardType P.depth t = false) : AYield P T e h o (.d (.sc (.bool true))) :=
  Y_eq TO hst ho hx hy h1 h1 hk hag hkx hkx hg (eqCells_me hkx) rfl
theorem R_neN {t u : TypeId} {x y : Operand} {k : IntKind} {a : Int} (ho : o.op = .binOp .neq t x y u) (hx : aev e x = some (.d (.sc (.int k a)))) (hy : aev e y = some (.d (.sc (.int k a)))) : AYield P T e h o (.d (.sc (.bool false))) :=
  Y_ibin (r := .bool false) ho hx hy (by simp [ibin])
theorem R_eqN {t u : TypeId} {x y : Operand} {k : IntKind} {a : Int} (ho : o.op = .binOp .eql t x y u) (hx : aev e x = some (.d (.sc (.int k a)))) (hy : aev e y = some (.d (.sc (.int k a)))) : AYield P T e h o (.d (.sc (.bool true))) :=
  Y_ibin (r := .bool true) ho hx hy (by simp [ibin])
theorem R_neB {t u : TypeId} {x y : Operand} {a : Bool} (TO : TabOk P tab) (ho : o.op = .binOp .neq t x y u) (ht : tbool tab t = true) (hx : aev e x = some (.d (.sc (.bool a)))) (hy : aev e y = some (.d (.sc (.bool a)))) : AYield P T e h o (.d (.sc (.bool false))) :=
  Y_bbin TO ho ht hx hy (bb_ne a)
end
set_option linter.unusedSimpArgs false
attribute [local irreducible] AWp AOps AQ AYield AEff ACall AWk AAny AAt AThen AIn APost NoPanic
theorem same09_A (l : List Int) (hn : l.length ≤ 1000000000000) : ACall Try.prog 26 [usA l, usA l] [] (Just (boolA true)) := by
  refine ACall_of tabOk Try.func26 rfl Try.ntmps26 (congrArg Array.toList Try.results26) (by kernel_rfl) rfl ?_
  repeat (first | refine A_seq ?_ | refine A_block ?_ | refine R_list ?_ | refine R_quiet rfl mixed (by kernel_rfl) ?_ | ((first | apply O_y rfl rfl rfl | apply Q_y rfl rfl rfl); (first | exact q_1 | exact q_2 | exact q_3 | exact q_4 | exact q_5 | exact q_6 | exact q_7 | exact q_8 | exact q_9 | exact q_10 | exact q_11 | exact q_12 | exact q_13 | exact q_14 | exact q_15 | exact q_16 | exact q_17 | exact q_18 | exact q_19 | exact q_20 | exact q_21 | exact q_22 | exact q_23 | exact q_24 | (first | exact R_neN rfl rfl rfl | exact R_eqN rfl rfl rfl | exact R_neB tabOk rfl rfl rfl rfl | exact R_neMe tabOk noStand rfl rfl rfl rfl rfl rfl rfl (by kernel_rfl) | exact R_eqMe tabOk noStand rfl rfl rfl rfl rfl rfl rfl (by kernel_rfl)))) | refine O_nil ?_ | refine Q_nil ?_ | refine q_j ?_ | refine q_k ?_ | refine q_d ?_ | refine q_a ?_ | refine q_b ?_ | refine q_c ?_ | refine A_ct rfl ?_ | refine A_cf rfl ?_ | refine A_skip ?_ | refine A_exit ?_ | refine A_ret ?_ | refine q_l ?_ | refine q_m ?_ | refine q_n ?_ | refine q_h ?_ | refine q_o ?_ | refine q_e ?_ | refine q_f ?_ | refine q_g ?_ | fail)
  refine A_loop (fun k : Nat => [(0, usA l), (1, usA l), (5, intA (k : Int))]) (fun _ => []) (fun k => k ≤ l.length) (fun k => l.length - k) 0 (Nat.zero_le _) (Wk_sel ⟨rfl, rfl, rfl, trivial⟩ trivial) ?_
  intro k hkl
  try dsimp only
  by_cases hk : k < l.length
  ·
    repeat (first | refine A_seq ?_ | refine A_block ?_ | refine R_list ?_ | refine R_quiet rfl mixed (by kernel_rfl) ?_ | ((first | apply O_y rfl rfl rfl | apply Q_y rfl rfl rfl); (first | exact q_1 | exact q_2 | exact q_3 | exact q_4 | exact R_loadi tabOk rfl rfl rfl rfl (by first | exact win_flat0 u1D_len l k _ hk (by decide) | exact win_flat u1D_len l k _ _ hk (by decide) | exact win_flat2 u1D_len l k _ _ _ hk (by decide) | rfl) rfl rfl | exact q_6 | exact q_7 | exact q_8 | exact q_9 | exact q_10 | exact q_11 | exact q_12 | exact q_13 | exact q_14 | exact q_15 | exact q_16 | exact q_17 | exact q_18 | exact q_19 | exact q_20 | exact q_21 | exact q_22 | exact q_23 | exact q_24 | (first | exact R_neN rfl rfl rfl | exact R_eqN rfl rfl rfl | exact R_neB tabOk rfl rfl rfl rfl | exact R_neMe tabOk noStand rfl rfl rfl rfl rfl rfl rfl (by kernel_rfl) | exact R_eqMe tabOk noStand rfl rfl rfl rfl rfl rfl rfl (by kernel_rfl)))) | refine O_nil ?_ | refine Q_nil ?_ | refine q_j ?_ | refine q_k ?_ | refine q_d ?_ | refine q_a ?_ | refine q_b ?_ | refine q_c ?_ | refine A_ct rfl ?_ | refine A_cf rfl ?_ | refine A_skip ?_ | refine A_exit ?_ | refine A_ret ?_ | refine q_l ?_ | refine q_m ?_ | refine q_n ?_ | refine q_h ?_ | refine q_o ?_ | refine q_e ?_ | refine q_f ?_ | refine q_g ?_ | fail)
    exact ⟨k + 1, by omega, by omega, Wk_sel ⟨rfl, rfl, rfl, trivial⟩ trivial⟩
  ·
    repeat (first | refine A_seq ?_ | refine A_block ?_ | refine R_list ?_ | refine R_quiet rfl mixed (by kernel_rfl) ?_ | ((first | apply O_y rfl rfl rfl | apply Q_y rfl rfl rfl); (first | exact q_1 | exact q_2 | exact q_3 | exact q_4 | exact q_5 | exact q_6 | exact q_7 | exact q_8 | exact q_9 | exact q_10 | exact q_11 | exact q_12 | exact q_13 | exact q_14 | exact q_15 | exact q_16 | exact q_17 | exact q_18 | exact q_19 | exact q_20 | exact q_21 | exact q_22 | exact q_23 | exact q_24 | fail)) | refine O_nil ?_ | refine Q_nil ?_ | refine q_j ?_ | refine q_k ?_ | refine q_d ?_ | refine q_a ?_ | refine q_b ?_ | refine q_c ?_ | refine A_ct rfl ?_ | refine A_cf rfl ?_ | refine A_skip ?_ | refine A_exit ?_ | refine A_ret ?_ | refine q_l ?_ | refine q_m ?_ | refine q_n ?_ | refine q_h ?_ | refine q_o ?_ | refine q_e ?_ | refine q_f ?_ | refine q_g ?_ | fail)
    exact X_ret rfl ⟨rfl, rfl⟩
theorem same16_A (s : Sbj) (h1 : s.path.length ≤ 1000000000000) (h2 : s.com.length ≤ 1000000000000) : ACall Try.prog 10 [aggD (sbjD s), aggD (sbjD s)] [] (Just (boolA true)) := by
  have c1 := same09_A s.path h1
  have c2 := same09_A s.com h2
  refine ACall_of tabOk Try.func10 rfl Try.ntmps10 (congrArg Array.toList Try.results10) (by kernel_rfl) rfl ?_
  repeat (first | refine A_seq ?_ | refine A_block ?_ | refine R_list ?_ | refine R_quiet rfl mixed (by kernel_rfl) ?_ | ((first | apply O_y rfl rfl rfl | apply Q_y rfl rfl rfl); (first | exact q_1 | exact q_2 | exact q_3 | exact q_4 | exact q_5 | exact q_6 | exact q_7 | exact q_8 | exact q_9 | exact q_10 | exact q_11 | exact q_12 | exact q_13 | exact q_14 | exact q_15 | exact q_16 | exact q_17 | exact q_18 | exact q_19 | exact q_20 | exact q_21 | exact q_22 | exact q_23 | exact q_24 | (first | exact R_neN rfl rfl rfl | exact R_eqN rfl rfl rfl | exact R_neB tabOk rfl rfl rfl rfl | exact R_neMe tabOk noStand rfl rfl rfl rfl rfl rfl rfl (by kernel_rfl) | exact R_eqMe tabOk noStand rfl rfl rfl rfl rfl rfl rfl (by kernel_rfl)))) | refine O_nil ?_ | refine Q_nil ?_ | refine q_j ?_ | refine q_k ?_ | refine q_d ?_ | refine q_a ?_ | refine q_b ?_ | refine q_c ?_ | refine A_ct rfl ?_ | refine A_cf rfl ?_ | refine A_skip ?_ | refine A_exit ?_ | refine A_ret ?_ | refine q_l ?_ | refine q_m ?_ | refine q_n ?_ | refine q_h ?_ | refine q_o ?_ | refine q_e ?_ | refine q_f ?_ | refine q_g ?_ | first | refine O_c rfl rfl rfl rfl rfl c1 (fun _ => rfl) ?_ | refine O_c rfl rfl rfl rfl rfl c2 (fun _ => rfl) ?_)
  exact X_ret rfl ⟨rfl, rfl⟩
end Go.Proofs.Ytmljmahlpcdhoaa.Ab

namespace Go.Proofs.Ytmljmahlpcdhoaa.Ab
set_option linter.unusedVariables false
open Go.RowKit
section
variable {P : Program} {nt : Nat} {Q : Post} {e : Env} {h : Heap} {ops : Array Oper} {o : Oper} {rest : List Oper} {T : List Nat} {tab : TTab} {fuel i : Nat} {listed : Array Bool}
theorem E_buildSliceF {t el : TypeId} {ps : Array (Nat × Operand)} {len : Nat} {te te' : TE} {d id : Nat} {al : List (Nat × AVal)} {xs : List AVal} {ds : List Dat} (TO : TabOk P tab) (ho : o.op = .buildSlice t len ps) (hdst : o.dst = some d) (ht : tlook tab t = some te) (hs : te.sh = .sl el)
    (hel : tlook tab el = some te') (hz : te'.zero.all (·.oneCell') = true) (hk : Nat.blt 0 te'.size = true) (hk2 : Nat.beq te'.zero.length te'.size = true) (hlen : Nat.blt (len * te'.size) 16777216 = true) (hpos : Nat.blt 0 len = true) (hal : aparts e ps.toList = some al)
    (hf : afill (fun i => some (i * te'.size, te'.size)) ((List.range (len * te'.size)).map fun j => match te'.zero[j % te'.size]? with | some v => .d (.sc v) | none => .top) al = some xs) (hds : xs = ds.map AVal.d) (hid : Nat.blt id 1000 = true) (hd : Nat.blt d nt = true) :
    AEff P nt T e h o (fun e' h' => e' = (d, .full ds len) :: frE id (.sl ds len) ((d, .row id) :: killE id e) ∧ h' = frH id (.sl ds len) ((id, .row el te'.size len ds) :: killH id h)) := fun Pm F w0 pin ι a w R K Qx hK => by
  have hu := (TO t te ht).slice hs
  obtain ⟨z, hz1, hz2, _⟩ := (TO el te' hel).zero w
  have hzl : z.cells.size = te'.size := by rw [← Array.length_toList, hz2]; exact Nat.eq_of_beq_eq_true hk2
  have hk : 0 < te'.size := by simp [Nat.blt] at hk; omega
  have hlen : len * te'.size < 16777216 := by simp [Nat.blt] at hlen; omega
  have hpos : 0 < len := by simp [Nat.blt] at hpos; omega
  let C0 : Array Value := (Array.range (len * te'.size)).map (z.cells[· % z.cells.size]!)
  have hget : ∀ j, j < len * te'.size → C0[j]? = te'.zero[j % te'.size]? ∧ ∃ v, te'.zero[j % te'.size]? = some v ∧ v.oneCell' = true := by
    intro j hj
    have hlt : j % te'.size < z.cells.size := by rw [hzl]; exact Nat.mod_lt _ hk
    have e1 : te'.zero[j % te'.size]? = some z.cells[j % te'.size] := by rw [← hz2, Array.getElem?_toList, Array.getElem?_eq_getElem hlt]
    refine ⟨?_, z.cells[j % te'.size], e1, List.all_eq_true.1 hz _ (List.mem_of_getElem? e1)⟩
    rw [e1]
    have hlt2 : j % z.cells.size < z.cells.size := by rw [hzl] at hlt ⊢; exact hlt
    simp only [C0, Array.getElem?_map]
    rw [Array.getElem?_range]
    simp only [hj, if_true, Option.map_some]
    rw [getElem!_pos z.cells _ hlt2]
    simp only [hzl]
  obtain ⟨C', g1, g2, g3⟩ := afill_rel R.env (fun i => some (i * te'.size, te'.size)) ps.toList al _ C0 xs hal hf (by simp [C0]) fun j c u h1 h2 => by
    have hj : j < len * te'.size := by have := (Array.getElem?_eq_some_iff.1 h2).1; simpa [C0] using this
    obtain ⟨e1, v, e2, e3⟩ := hget j hj
    rw [List.getElem?_map, List.getElem?_range hj] at h1
    simp only [Option.map_some, e2] at h1
    cases h1
    rw [e1, e2] at h2
    cases h2
    exact sc_rel e3
  have hxl : xs.length = len * te'.size := by
    have : ∀ (al : List (Nat × AVal)) (cells xs : List AVal) (place : Nat → Option (Nat × Nat)), afill place cells al = some xs → xs.length = cells.length := by
      intro al
      induction al with
      | nil => intro cells xs place h; cases h; rfl
      | cons p r ih =>
        intro cells xs place h
        obtain ⟨i, c⟩ := p
        rw [afill] at h
        split at h
        · rename_i off size ys _ _
          cases hb : Nat.beq ys.length size && Nat.ble (off + ys.length) cells.length with
          | false => rw [hb] at h; cases h
          | true =>
            rw [hb] at h
            have := ih _ _ _ h
            have hl := Nat.le_of_ble_eq_true (by simp only [Bool.and_eq_true] at hb; exact hb.2)
            rw [this]; simp [setW]; omega
        · cases h
    rw [this al _ xs _ hf]; simp
  have hb : ∀ ι', ι' = upd ι id (some (.slice (some ⟨w.heap.size, 0, none⟩) len len)) → Ext w F ι (w.alloc (.cells C' el)) ι' → BRel (w.alloc (.cells C' el)) F ι' (.row el te'.size len ds) (.slice (some ⟨w.heap.size, 0, none⟩) len len) := by
    intro ι' h0 he
    have hsz : C'.size = len * te'.size := by rw [g2, hxl]
    refine ⟨C'.toList, ⟨by simp [hsz], .inr ⟨w.heap.size, len, C', rfl, Nat.zero_le _, heap_new _ _, Nat.le_refl _, ?_, hsz, ?_⟩⟩, ?_, ?_⟩
    · have := Nat.le_mul_of_pos_right len hk
      unfold maxLen; omega
    · rw [List.take_of_length_le (by simp [hsz])]
    · subst hds; simpa using g2
    · intro i c u h1 h2
      subst hds
      have := g3 i (.d c) u (by rw [List.getElem?_map, h1]; rfl) (by simpa using h2)
      cases this with
      | d _ _ hd => exact hd.ext he.mem he.free
  obtain ⟨hR, hC⟩ := R.new (T := T) hid (d := some d) (by simpa [dstOk] using hd) (.cells C' el) (.slice (some ⟨w.heap.size, 0, none⟩) len len) (by simp [blockOf]) _ (.row id) hb fun ι' h1 => .row id _ rfl fun v hv => by subst h1; simp [upd] at hv; exact hv
  have hrun : (execOp a.eval o).run P w = .ok (.value (.slice (some ⟨w.heap.size, 0, none⟩) len len)) (w.alloc (.cells C' el)) := by
    have hfill : Instr.fill (fun i => some (i * te'.size, te'.size)) C0 (ps.map fun p => (p.1, a.eval p.2)).toList = some C' := by rw [Array.toList_map]; exact g1
    simp only [execOp, ho]
    have h0 : ¬ (len = 0 ∨ te'.size = 0) := by omega
    rw [Array.toList_map] at hfill
    have hn : ¬ (16777216 < len * te'.size) := by omega
    simp [Instr.buildSlice, run_underlying hu, (TO el te' hel).size, hz1, hn]
    rw [show Instr.fill (fun i => some (i * te'.size, te'.size)) _ _ = some C' from hfill]
    simp [newRow, newObj, Sem.run]
    intro h9
    rcases Nat.mul_eq_zero.1 h9 with h9 | h9 <;> omega
  unfold Oper.wp
  rw [hrun, Oper.upon_value, hdst]
  obtain ⟨ι2, hs2, R2⟩ := Wk_freezeS (id := id) (el := el) (k := te'.size) (cs := ds) (n := len) (by simp [look]) Pm F w0 pin _ _ _ hR
  have hlk : look (frE id (.sl ds len) (aput (some d) (.row id) (killE id e))) d = some (.d (.sl ds len)) := by rw [look_frE]; simp [aput, look, frV]
  obtain ⟨u, hu, hv⟩ := R2.env d _ hlk
  have hdn : d < nt := by simp [Nat.blt] at hd; omega
  have hsz := R.size
  have hp : ∀ v : Value, (a.put (some d) v).tmps[d]? = some v := fun v => by
    simp only [Act.put]
    rw [Array.getElem?_setIfInBounds]
    simp; omega
  have hu2 := Option.some.inj (hu.symm.trans (hp _))
  subst hu2
  cases hv with
  | d _ _ hD =>
  refine hK _ _ _ _ _ ⟨rfl, rfl⟩ ⟨R2.heap, fun t c ht => ?_, R2.defers, R2.size⟩ ⟨hC.ct, fun j hj v r h1 h2 h3 => hC.old j hj v r (hs2 j v h1) h2 h3⟩ (put_defers _ _ _)
  rw [look] at ht
  cases hb : Nat.beq d t with
  | true =>
    obtain rfl := Nat.eq_of_beq_eq_true hb
    rw [hb, cond_true] at ht
    cases ht
    exact ⟨_, hu, .full _ _ _ hD⟩
  | false =>
    rw [hb, cond_false] at ht
    exact R2.env t c ht
theorem O_sliceF {t el k len d : Nat} {ps : Array (Nat × Operand)} {al : List (Nat × AVal)} {xs : List AVal} {ds : List Dat} (TO : TabOk P tab) (hw : awant ops e o = some true) (hdst : o.dst = some d) (hd : Nat.blt d nt = true) (hid : Nat.blt d 1000 = true) (ho : o.op = .buildSlice t len ps)
    (hel : telem tab t = some el) (hsz : tsize tab el = some k) (hok : (match tlook tab el with | some te => te.zero.all (·.oneCell') && Nat.blt 0 te.size && Nat.beq te.zero.length te.size && Nat.blt (len * te.size) 16777216 && Nat.blt 0 len | none => false) = true)
    (hal : aparts e ps.toList = some al) (hf : (match tlook tab el with
      | some te => afill (fun i => some (i * te.size, te.size)) ((List.range (len * te.size)).map fun j => match te.zero[j % te.size]? with | some v => .d (.sc v) | none => .top) al
      | none => none) = some xs) (hds : datsA xs = some ds)
    (HK : AOps P nt ops Q rest ((d, .full ds len) :: frE d (.sl ds len) ((d, .row d) :: killE d e)) (frH d (.sl ds len) ((d, .row el k len ds) :: killH d h))) : AOps P nt ops Q (o :: rest) e h := by
  obtain ⟨te, h1, h2⟩ := telem_spec hel
  obtain ⟨te', h3, rfl⟩ := tsize_spec hsz
  rw [h3] at hok hf
  simp only [Bool.and_eq_true] at hok
  exact O_eff (T := []) hw (E_buildSliceF TO ho hdst h1 h2 h3 hok.1.1.1.1 hok.1.1.1.2 hok.1.1.2 hok.1.2 hok.2 hal hf (datsA_spec hds) hid hd) fun e' h' ⟨h1, h2⟩ => by subst h1 h2; exact HK
end
end Go.Proofs.Ytmljmahlpcdhoaa.Ab

namespace Go.Proofs.Ytmljmahlpcdhoaa.Ab
set_option linter.unusedVariables false
set_option maxRecDepth 100000
open Go.RowKit Go.Lib
theorem wrapU (x : Int) : ∃ a : Nat, IntKind.u64.wrap x = (a : Int) ∧ a < 18446744073709551616 := by
  have h1 : IntKind.u64.wrap x = x % 18446744073709551616 := by simp [IntKind.wrap, IntKind.signed, IntKind.bits]
  have h2 := Int.emod_nonneg x (show (18446744073709551616 : Int) ≠ 0 by decide)
  have h3 := Int.emod_lt_of_pos x (show (0 : Int) < 18446744073709551616 by decide)
  exact ⟨(x % 18446744073709551616).toNat, by rw [h1]; omega, by omega⟩
theorem wrapUN {n : Nat} (h : n < 18446744073709551616) : IntKind.u64.wrap (n : Int) = (n : Int) := by
  have h1 : IntKind.u64.wrap (n : Int) = (n : Int) % 18446744073709551616 := by simp [IntKind.wrap, IntKind.signed, IntKind.bits]
  rw [h1, Int.emod_eq_of_lt (by omega) (by omega)]
section
variable {P : Program} {T : List Nat} {e : Env} {h : Heap} {o : Oper} {tab : TTab}
theorem R_remU {t u : TypeId} {x y : Operand} {a b : Nat} (ho : o.op = .binOp .rem t x y u) (hx : aev e x = some (.d (.sc (.int .u64 (a : Int))))) (hy : aev e y = some (.d (.sc (.int .u64 (b : Int))))) (hb : 0 < b) (hm : b < 18446744073709551616) :
    AYield P T e h o (.d (.sc (.int .u64 ((a % b : Nat) : Int)))) := yield_of _ fun w F ι ac E =>
  ⟨.int .u64 ((a % b : Nat) : Int), sc_rel rfl, fun w' => by
    simp only [execOp, ho, (sc_of (aev_rel E hx)).1, (sc_of (aev_rel E hy)).1]
    have h1 : ((a : Int)).tmod (b : Int) = ((a % b : Nat) : Int) := by rw [Int.ofNat_tmod]
    have h3 := Nat.mod_lt a hb
    obtain ⟨q, hq⟩ : ∃ q, a % b = q := ⟨_, rfl⟩
    rw [hq] at h1 h3 ⊢
    have h2 : IntKind.u64.wrap (q : Int) = (q : Int) := wrapUN (by omega)
    have h4 : ((b : Int)) ≠ 0 := by omega
    have hb0 : b ≠ 0 := by omega
    simp [eqGuard, binOp, Op.intDiv, h4, h1, h2, hb0]⟩
theorem R_conv {t t' : TypeId} {x : Operand} {k k' : IntKind} {b r : Int} {te te' : TE} (TO : TabOk P tab) (ho : o.op = .convert t t' x) (hx : aev e x = some (.d (.sc (.int k b)))) (h1 : tlook tab t = some te) (h2 : tlook tab t' = some te') (h3 : te'.sh = .it k') (hr : k'.wrap b = r) : AYield P T e h o (.d (.sc (.int k' r))) := Y_conv TO ho hx h1 h2 h3 hr
end
def fulls (xs : List AVal) : List AVal := xs.map fun x => match x with
  | .full cs n => .d (.sl cs n)
  | x => x
theorem see_fulls {xs : List AVal} (w : World) (F : Nat → Prop) (ι : Nat → Option Value) (u : Value) (h : VRel w F ι (.agg xs) u) : VRel w F ι (.agg (fulls xs)) u := by
  cases h with
  | agg _ C hl h =>
    refine .agg _ C (by rw [hl]; simp [fulls]) fun i c u hc hu => ?_
    unfold fulls at hc
    rw [List.getElem?_map] at hc
    cases hx : xs[i]? with
    | none => rw [hx] at hc; cases hc
    | some c0 =>
      rw [hx] at hc
      have h0 := h i c0 u hx hu
      simp only [Option.map_some, Option.some.injEq] at hc
      split at hc
      · subst hc; exact see_full _ _ _ _ h0
      · subst hc; exact h0
def whichP (which : Int) (n : Nat) : Nat := (IntKind.u64.wrap which).toNat % n
end Go.Proofs.Ytmljmahlpcdhoaa.Ab

/-
  Texts of a proof, one behind the other (part 30).
-/
import Derived.Test.YtenolkolkpfjgaaGreatFt7
import Derived.Test.YtenolkolkpfjgaaGreatFt8
import Derived.Test.YtenolkolkpfjgaaGreatFt28
set_option linter.unusedVariables false
set_option linter.unusedSimpArgs false
namespace Go.Proofs.YtenolkolkpfjgaaGreat.Ab.V
set_option linter.unusedVariables false
set_option maxRecDepth 100000
open Go.RowKit Go.Lib
theorem lookV_law (Y : List EntR) (x : Int) (hn : ((Y.map (·.x)).map (·.p)).Nodup) (hg : ∀ y ∈ Y, Go.Proofs.YtenolkolkpfjgaaGreat.good y.x.p) :
    (∃ (k : Nat) (hk : k < Y.length), (longRE (uE (vE Y)) (mE (vE Y)) x).2 = (toV Y[k], true) ∧ (Ab.longRE (Ab.uE (Y.map (·.x))) (Ab.mE (Y.map (·.x))) x).2 = (Y[k].x, true)) ∨
    ((longRE (uE (vE Y)) (mE (vE Y)) x).2 = (ent0, false) ∧ (Ab.longRE (Ab.uE (Y.map (·.x))) (Ab.mE (Y.map (·.x))) x).2 = (Ab.ent0, false)) := by
  have hnV : ((vE Y).map (·.p)).Nodup := by rw [vE_p]; exact hn
  have hgV : ∀ z ∈ vE Y, Go.Proofs.YtenolkolkpfjgaaGreat.good z.p := fun z hz => by
    obtain ⟨y, hy, rfl⟩ := List.mem_map.1 hz
    exact hg y hy
  have hgA : ∀ z ∈ Y.map (·.x), Go.Proofs.YtenolkolkpfjgaaGreat.good z.p := fun z hz => by
    obtain ⟨y, hy, rfl⟩ := List.mem_map.1 hz
    exact hg y hy
  rcases look_law hnV hgV x with ⟨h1, h2, h3, h4⟩ | ⟨h1, h2, h3⟩
  · obtain ⟨y, hy, hyz⟩ := List.mem_map.1 h2
    obtain ⟨k, hk, rfl⟩ := List.mem_iff_getElem.1 hy
    refine .inl ⟨k, hk, ?_, ?_⟩
    · cases hz : (longRE (uE (vE Y)) (mE (vE Y)) x).2 with
      | mk z b =>
        rw [hz] at h1 hyz
        dsimp only at h1 hyz
        rw [h1, hyz]
    · refine Ab.look_uniq hn hgA (List.mem_map.2 ⟨Y[k], hy, rfl⟩) ?_ fun z hz hi => ?_
      · rw [← hyz] at h3; exact h3
      · obtain ⟨y2, hy2, rfl⟩ := List.mem_map.1 hz
        have := h4 (toV y2) (List.mem_map.2 ⟨y2, hy2, rfl⟩) hi
        rw [← hyz] at this
        exact this
  · refine .inr ⟨?_, Ab.look_none hn hgA fun z hz => ?_⟩
    · cases hz : (longRE (uE (vE Y)) (mE (vE Y)) x).2 with
      | mk z b =>
        rw [hz] at h1 h2
        dsimp only at h1 h2
        rw [h1, h2]
    · obtain ⟨y2, hy2, rfl⟩ := List.mem_map.1 hz
      exact h3 (toV y2) (List.mem_map.2 ⟨y2, hy2, rfl⟩)
set_option linter.unusedSimpArgs false
attribute [local irreducible] AWp AOps AQ AYield AEff ACall AWk AAny AAt AThen AIn APost NoPanic
set_option maxHeartbeats 8000000 in
theorem lookV_A (Y : List EntR) (x : Int) (x0 : 0 ≤ x) (x1 : x < 4294967296) (hn : ((Y.map (·.x)).map (·.p)).Nodup) (hl : ∀ y ∈ Y, y.x.hs.length ≤ 2147483648) (hg : ∀ y ∈ Y, Go.Proofs.YtenolkolkpfjgaaGreat.good y.x.p) :
    ACall Tryz.prog 12 [.ptr 1000 0, .d (.sc (.int .u32 x))] (tabV0 Y) (fun c h => ∃ v : Value, True ∧ c = .tup [entRA ⟨(Ab.longRE (Ab.uE (Y.map (·.x))) (Ab.mE (Y.map (·.x))) x).2.1, v⟩, boolA (Ab.longRE (Ab.uE (Y.map (·.x))) (Ab.mE (Y.map (·.x))) x).2.2] ∧ h = (950, hopX v (Ab.longRE (Ab.uE (Y.map (·.x))) (Ab.mE (Y.map (·.x))) x).2.1.hs) :: tabV0 Y) := by
  have hlo := longestV_A (uE (vE Y)) (mE (vE Y)) x x0 x1 (by rw [mE_keys, vE_p]; exact hn)
  rcases lookV_law Y x hn hg with ⟨k, hk, hV, hA⟩ | ⟨hV, hA⟩
  · obtain ⟨⟨p, z, b⟩, hr⟩ : ∃ r, longRE (uE (vE Y)) (mE (vE Y)) x = r := ⟨_, rfl⟩
    rw [hr] at hlo hV
    cases hV
    have hown := ownR_A Y[k].x (hl _ (List.getElem_mem hk))
    have hfk := famE_at Y 1100 k hk
    rw [hA]
    dsimp only at hlo ⊢
    obtain ⟨y, hy⟩ : ∃ y, Y[k] = y := ⟨_, rfl⟩
    rw [hy] at hlo hown hfk ⊢
    clear hA hr hy
    obtain ⟨⟨⟨pa, pb⟩, xx, hs⟩, v⟩ := y
    refine ACall_of tabOk Tryz.func12 rfl Tryz.ntmps12 (congrArg Array.toList Tryz.results12) (by kernel_rfl) rfl ?_
    repeat (first | refine q_Z ?_ | ((first | apply O_y rfl rfl rfl | apply Q_y rfl rfl rfl); (first | exact q_A | exact q_5 | exact q_B | (first | exact R_pnil tabOk rfl rfl rfl rfl rfl | exact Y_nilCheck rfl rfl rfl))) | refine q_d ?_ | refine q_a ?_ | refine q_b ?_ | refine q_c ?_ | refine A_ct rfl ?_ | refine A_cf rfl ?_ | refine q_W ?_ | (refine O_cTblV 1001 1002 (by omega) hlo rfl rfl rfl rfl rfl rfl rfl rfl (kill_mapE 4 _) ?_))
    refine O_cRN (α := Value) (Φ := fun _ => True) (C := fun v' => entRA ⟨⟨⟨pa, pb⟩, xx, hs⟩, v'⟩) (H1 := fun v' => [(950, hopX v' hs)]) (cs := [entRA ⟨⟨⟨pa, pb⟩, xx, hs⟩, v⟩]) (cs' := [Ab.entA ⟨⟨pa, pb⟩, xx, hs⟩]) ?_ hown (fun v' _ => ⟨rfl, rfl, fun id b hb => ?_, fun j hj => by cases hj⟩) rfl rfl rfl rfl rfl fun v' _ => ?_
    · refine .cons (.agg (entRD ⟨⟨⟨pa, pb⟩, xx, hs⟩, v⟩) (Ab.entD ⟨⟨pa, pb⟩, xx, hs⟩) ?_) .nil
      refine .cons (.same _) (.cons (.same _) (.cons (.same _) (.cons (.row v (1100 + k) 66 2 hs.length (hs.flatMap hopD) ?_) (.nil _))))
      repeat (first | exact hfk | refine fy_cons (by decide) (by omega) ?_ | refine fy_killH (by decide) (by omega) (plain_hops _) ?_)
    · by_cases h : 950 = id
      · subst h; rw [look_cons_same] at hb; cases hb; exact plain_hops _
      · rw [look_cons_ne _ _ h] at hb; cases hb
    repeat (first | refine q_Z ?_ | ((first | apply O_y rfl rfl rfl | apply Q_y rfl rfl rfl); (first | exact q_A | exact q_5 | exact q_B)) | refine q_d ?_ | refine q_a ?_ | refine q_b ?_ | refine q_c ?_ | refine A_ct rfl ?_ | refine A_cf rfl ?_ | refine q_W ?_)
    exact X_retW AWk.refl rfl (h2 := (950, hopX v' hs) :: tabV0 Y) ⟨rfl, rfl, rfl, (by show some _ = _; simp only [kmV, kmVs]), rfl, (sub_of_look (famE_nd Y 1100) fun id b hb => by have hd := famE_in hb; repeat (first | exact hb | refine fy_cons (by decide) hd.1 ?_ | refine fy_killH (by decide) hd.1 hd.2.2 ?_ | refine fy_killHs (ks := [950]) (by decide) hd.1 hd.2.2 ?_ | refine fy_killHs (by decide) hd.1 hd.2.2 ?_)) ⟩ ⟨v', trivial, rfl, rfl⟩
  · obtain ⟨⟨p, z, b⟩, hr⟩ : ∃ r, longRE (uE (vE Y)) (mE (vE Y)) x = r := ⟨_, rfl⟩
    rw [hr] at hlo hV
    cases hV
    have hown := ownR_A Ab.ent0 (by decide)
    have hq := hopX_q Ab.ent0
    rw [hA]
    dsimp only at hlo ⊢
    refine ACall_of tabOk Tryz.func12 rfl Tryz.ntmps12 (congrArg Array.toList Tryz.results12) (by kernel_rfl) rfl ?_
    repeat (first | refine q_Z ?_ | ((first | apply O_y rfl rfl rfl | apply Q_y rfl rfl rfl); (first | exact q_A | exact q_5 | exact q_B | (first | exact R_pnil tabOk rfl rfl rfl rfl rfl | exact Y_nilCheck rfl rfl rfl))) | refine q_d ?_ | refine q_a ?_ | refine q_b ?_ | refine q_c ?_ | refine A_ct rfl ?_ | refine A_cf rfl ?_ | refine q_W ?_ | (refine O_cTblV 1001 1002 (by omega) hlo rfl rfl rfl rfl rfl rfl rfl rfl (kill_mapE 4 _) ?_))
    refine O_weaken (Wk_see (t := 22) rfl see_ent) ?_
    refine O_cNE (Φ := fun _ : Value => True) (C := fun v => entRA ⟨Ab.ent0, v⟩) (H1 := fun v => [(950, hopX v [])]) hown (fun v _ => hq v) rfl rfl rfl rfl rfl fun v _ => ?_
    repeat (first | refine q_Z ?_ | ((first | apply O_y rfl rfl rfl | apply Q_y rfl rfl rfl); (first | exact q_A | exact q_5 | exact q_B)) | refine q_d ?_ | refine q_a ?_ | refine q_b ?_ | refine q_c ?_ | refine A_ct rfl ?_ | refine A_cf rfl ?_ | refine q_W ?_)
    exact X_retW AWk.refl rfl (h2 := (950, hopX v []) :: tabV0 Y) ⟨rfl, rfl, rfl, (by show some _ = _; simp only [kmV, kmVs]), rfl, (sub_of_look (famE_nd Y 1100) fun id b hb => by have hd := famE_in hb; repeat (first | exact hb | refine fy_cons (by decide) hd.1 ?_ | refine fy_killH (by decide) hd.1 hd.2.2 ?_ | refine fy_killHs (ks := [950]) (by decide) hd.1 hd.2.2 ?_ | refine fy_killHs (by decide) hd.1 hd.2.2 ?_)) ⟩ ⟨v, trivial, rfl, rfl⟩
end Go.Proofs.YtenolkolkpfjgaaGreat.Ab.V

namespace Go.Proofs.YtenolkolkpfjgaaGreat.Ab
set_option linter.unusedVariables false
set_option maxRecDepth 100000
open Go.RowKit
mutual
def plainW : AVal → Bool
  | .d x => plainD x
  | .row _ => true
  | .ptr _ _ => true
  | .mp _ => true
  | .agg cs => plainWs cs
  | .tup cs => plainWs cs
  | _ => false
def plainWs : List AVal → Bool
  | [] => true
  | c :: r => plainW c && plainWs r
end
theorem plainWs_at : ∀ {cs : List AVal} {i : Nat} {c : AVal}, plainWs cs = true → cs[i]? = some c → plainW c = true
  | [], i, c, _, h => by simp at h
  | x :: r, i, c, hp, h => by
    simp only [plainWs, Bool.and_eq_true] at hp
    cases i with
    | zero => simp at h; subst h; exact hp.1
    | succ i => exact plainWs_at hp.2 (by simpa using h)
theorem VRel.plainW {w : World} {F F' : Nat → Prop} {ι : Nat → Option Value} {c : AVal} {u : Value} (h : VRel w F ι c u) : Ab.plainW c = true → VRel w F' ι c u := by
  induction h with
  | d x u hd => intro hp; exact .d x u (DRel.plain hp hd)
  | row id u h1 h2 => intro _; exact .row id u h1 h2
  | ptr id off u h1 h2 => intro _; exact .ptr id off u h1 h2
  | mp id u h1 h2 => intro _; exact .mp id u h1 h2
  | agg cs C hl hh ih => intro hp; exact .agg cs C hl fun i c u h1 h2 => ih i c u h1 h2 (plainWs_at (by simpa [Ab.plainW] using hp) h1)
  | tup cs C hl hh ih => intro hp; exact .tup cs C hl fun i c u h1 h2 => ih i c u h1 h2 (plainWs_at (by simpa [Ab.plainW] using hp) h1)
  | _ => intro hp; simp [Ab.plainW] at hp
def plainBW : ABlk → Bool
  | .row _ _ _ cs => cs.all plainD
  | .rowx _ _ _ _ cs => cs.all plainD
  | .var cs => plainWs cs
  | .map es => es.all fun p => plainW p.1 && plainW p.2
  | _ => false
theorem BRel.plainW {w : World} {F F' : Nat → Prop} {ι : Nat → Option Value} {b : ABlk} {v : Value} (hp : plainBW b = true) (h : BRel w F ι b v) : BRel w F' ι b v := by
  cases b with
  | row e k n cs => exact RowR.plain hp h
  | rowx hv e k n cs => exact ⟨h.1, h.2.plain hp⟩
  | var cs =>
    obtain ⟨r, C, tt, h1, h2, h3, h4⟩ := h
    exact ⟨r, C, tt, h1, h2, h3, fun i c u h5 h6 => (h4 i c u h5 h6).plainW (plainWs_at hp h5)⟩
  | map es =>
    obtain ⟨r, E, clk, h1, h2, h3, h4, h5⟩ := h
    refine ⟨r, E, clk, h1, h2, h3, fun i p m h6 h7 => ?_, h5⟩
    have := List.all_eq_true.1 hp p (List.mem_of_getElem? h6)
    simp only [Bool.and_eq_true] at this
    exact ⟨(h4 i p m h6 h7).1.plainW this.1, (h4 i p m h6 h7).2.plainW this.2⟩
  | _ => cases hp
section
variable {P : Program} {nt : Nat} {Q0 : Post} {e : Env} {h : Heap} {ops : Array Oper} {o : Oper} {rest : List Oper} {T : List Nat}
theorem E_cRP {f : FuncId} {args : Array Operand} {ats : Array TypeId} {cs cs' : List AVal} {d : Option Tmp} {Q : AVal → Heap → Prop} (hr : RawL h cs cs') (ho : o.op = .call { callee := .value (.func f), args := args, argTypes := ats }) (hdst : o.dst = d) (hx : aevs e args.toList = some cs)
    (H : ACall P f cs' [] Q) (hd : dstOk nt d = true) (hq : ∀ c h', Q c h' → (h'.map (·.1)).all (fun j => Nat.blt j 1000) = true ∧ plainW c = true ∧ (∀ id b, look h' id = some b → plainBW b = true ∧ ∀ j, blkHas j b = true → (look h' j).isSome = true) ∧ ∀ j, c.has j = true → (look h' j).isSome = true) :
    AEff P nt T e h o (fun e' h2 => ∃ c h', Q c h' ∧ e' = aput d c (killEs (h'.map (·.1)) e) ∧ h2 = h' ++ killHs (h'.map (·.1)) h) := fun Pm F w0 pin ι a w R K Qx hK => by
  unfold Oper.wp
  rw [run_callA H.1 ho, Oper.upon_enter, hdst]
  have hF : ∀ r, Fc F ι r → r < w.heap.size := fun r hr => hr.elim (fun h1 => Nat.lt_of_lt_of_le (R.heap.forb r h1) R.heap.size) fun ⟨id, v, h1, h2⟩ => R.heap.lt h1 h2
  refine (H.2 _ _ w _ _ _ w (HRel.none (fun _ => False) w (fun _ h => h.elim)) (argsR R.heap hr (args_of R.env hx))).mono ?_
  rintro x w' ⟨u, c, h', ι', rfl, hQ, hH, hv⟩
  obtain ⟨h1, h2, h3, h4⟩ := hq c h' hQ
  have hH2 : HRel (fun r => w.heap.size ≤ r) (Fc F ι) w (fun _ => none) ι' h' w' :=
    ⟨fun id b hb => let ⟨v, hv, hB⟩ := hH.blk id b hb; ⟨v, hv, hB.plainW (h3 id b hb).1⟩, hH.dom, hH.inj, hH.pm, hH.os, hH.tape, hH.output, hH.size, hH.keep, hH.fresh, hH.pinned,
      fun i v r hi hb hF' => by have := hH.pm i v r hi hb; have := hF r hF'; omega, hF⟩
  obtain ⟨ι2, hR, hC⟩ := R.called (T := T) hH2 (hv.plainW h2) h1 (fun id b j hb hj => (h3 id b hb).2 j hj) h4 hd
  exact hK _ _ _ _ _ ⟨c, h', hQ, rfl, rfl⟩ hR hC (put_defers _ _ _)
theorem O_cRP {α : Type} {Φ : α → Prop} {C : α → AVal} {H1 : α → Heap} {f : FuncId} {args : Array Operand} {ats : Array TypeId} {cs cs' : List AVal} {d : Nat} (hr : RawL h cs cs') (H : ACall P f cs' [] (fun c' h' => ∃ x, Φ x ∧ c' = C x ∧ h' = H1 x))
    (hq : ∀ x, Φ x → ((H1 x).map (·.1)).all (fun j => Nat.blt j 1000) = true ∧ plainW (C x) = true ∧ (∀ id b, look (H1 x) id = some b → plainBW b = true ∧ ∀ j, blkHas j b = true → (look (H1 x) j).isSome = true) ∧ ∀ j, (C x).has j = true → (look (H1 x) j).isSome = true)
    (hw : awant ops e o = some true) (hdst : o.dst = some d) (hd : Nat.blt d nt = true) (ho : o.op = .call { callee := .value (.func f), args := args, argTypes := ats }) (hx : aevs e args.toList = some cs)
    (HK : ∀ x, Φ x → AOps P nt ops Q0 rest ((d, C x) :: killEs ((H1 x).map (·.1)) e) (H1 x ++ killHs ((H1 x).map (·.1)) h)) : AOps P nt ops Q0 (o :: rest) e h :=
  O_eff (T := []) hw (E_cRP (d := some d) hr ho hdst hx H hd fun c' h' ⟨x, hΦ, q1, q2⟩ => by subst q1 q2; exact hq x hΦ) fun e' h' ⟨c', h2, ⟨x, hΦ, q1, q2⟩, q3, q4⟩ => by subst q1 q2 q3 q4; exact HK x hΦ
end
end Go.Proofs.YtenolkolkpfjgaaGreat.Ab

namespace Go.Proofs.YtenolkolkpfjgaaGreat.Ab.V
set_option linter.unusedVariables false
set_option maxRecDepth 100000
open Go.RowKit Go.Lib
abbrev newB (Y : List EntR) : Heap := (10, .var [.row 950, .ptr 3 0]) :: (950, entRB Y) :: (3, tblB 902 (uE (vE Y))) :: (902, emapB (mE (vE Y))) :: famE Y 100
theorem new_q (Y : List EntR) (hn : Y.length ≤ 200) : ((newB Y).map (·.1)).all (fun j => Nat.blt j 1000) = true ∧ plainW (.ptr 10 0) = true ∧ (∀ id b, look (newB Y) id = some b → plainBW b = true ∧ ∀ j, blkHas j b = true → (look (newB Y) j).isSome = true) ∧ ∀ j, (AVal.ptr 10 0).has j = true → (look (newB Y) j).isSome = true := by
  refine ⟨?_, rfl, fun id b hb => ?_, fun j hj => ?_⟩
  · rw [List.all_eq_true]
    intro j hj
    simp only [newB, List.map_cons, List.mem_cons] at hj
    rcases hj with rfl | rfl | rfl | rfl | h1
    · rfl
    · rfl
    · rfl
    · rfl
    · obtain ⟨b, hb⟩ := look_of_key h1
      have := famE_in hb
      exact Nat.ble_eq_true_of_le (by omega)
  · by_cases h1 : 10 = id
    · subst h1
      rw [look_cons_same] at hb; cases hb
      refine ⟨rfl, fun j hj => ?_⟩
      have h2 : ((950 == j) || ((3 == j) || false)) = true := hj
      simp at h2
      rcases h2 with rfl | rfl <;> rfl
    rw [look_cons_ne _ _ h1] at hb
    by_cases h2 : 950 = id
    · subst h2
      rw [look_cons_same] at hb; cases hb
      refine ⟨?_, fun j hj => by cases hj⟩
      show (Y.flatMap entRD).all plainD = true
      rw [List.all_eq_true]
      intro c hc
      obtain ⟨x, _, hx⟩ := List.mem_flatMap.1 hc
      simp [entRD] at hx
      rcases hx with rfl | rfl | rfl | rfl <;> rfl
    rw [look_cons_ne _ _ h2] at hb
    by_cases h3 : 3 = id
    · subst h3
      rw [look_cons_same] at hb; cases hb
      refine ⟨rfl, fun j hj => ?_⟩
      have hs : hasL j (usedA (uE (vE Y))) = false := shutL_has j (usedA (uE (vE Y))) rfl
      have h9 : ((AVal.mp 902).has j || hasL j (usedA (uE (vE Y)))) = true := hj
      rw [hs, Bool.or_false] at h9
      have : (902 == j) = true := h9
      have : 902 = j := by simpa using this
      subst this
      rfl
    rw [look_cons_ne _ _ h3] at hb
    by_cases h4 : 902 = id
    · subst h4
      rw [look_cons_same] at hb; cases hb
      refine ⟨?_, fun j hj => ?_⟩
      · refine List.all_eq_true.2 fun p hp => ?_
        obtain ⟨q, _, rfl⟩ := List.mem_map.1 hp
        rfl
      · have h9 : (ents pfxA entA (mE (vE Y))).any (fun p => p.1.has j || p.2.has j) = true := hj
        obtain ⟨p, hp, h10⟩ := List.any_eq_true.1 h9
        obtain ⟨q, _, rfl⟩ := List.mem_map.1 hp
        cases h10
    rw [look_cons_ne _ _ h4] at hb
    have hx := (famE_in hb).2.2
    refine ⟨?_, fun j hj => by rw [isX_has hx] at hj; cases hj⟩
    cases b <;> first | exact hx | cases hx
  · have h1 : (10 == j) = true := hj
    have : 10 = j := by simpa using h1
    subst this
    rfl
end Go.Proofs.YtenolkolkpfjgaaGreat.Ab.V

namespace Go.Proofs.YtenolkolkpfjgaaGreat.Ab
set_option linter.unusedVariables false
set_option maxRecDepth 100000
open Go.RowKit
theorem ACall.reG {P : Program} {α : Type} {f : FuncId} {args : List AVal} {h : Heap} {p id : Nat} {Φ : α → Prop} {H1 H2 : α → Heap} (κ : α → Nat → Option Nat) (H : ACall P f args h (fun c h' => ∃ x, Φ x ∧ c = .row p ∧ h' = H1 x))
    (h1 : ∀ x, Φ x → ∀ j b, look (H2 x) j = some b → ∃ q, κ x j = some q ∧ look (H1 x) q = some b ∧ plainB b = true) (h2 : ∀ x, Φ x → ∀ j q, κ x j = some q → j < 1000 ∧ (look (H2 x) j).isSome = true)
    (h3 : ∀ x, Φ x → ∀ i j q, κ x i = some q → κ x j = some q → i = j) (h4 : ∀ x, Φ x → κ x id = some p) : ACall P f args h (fun c h' => ∃ x, Φ x ∧ c = .row id ∧ h' = H2 x) :=
  ⟨H.1, fun Pm F w0 pin ι0 us w a b => (H.2 Pm F w0 pin ι0 us w a b).mono fun y w' ⟨u, c, h', ι, hy, ⟨x, hx, e1, e2⟩, H, hv⟩ => by
    subst e1 e2
    let ι2 : Nat → Option Value := fun j => match κ x j with | some q => ι q | none => none
    have hι : ∀ i u, ι2 i = some u → ∃ q, κ x i = some q ∧ ι q = some u := fun i u hu => by
      simp only [ι2] at hu
      cases hk : κ x i with
      | none => rw [hk] at hu; cases hu
      | some q => rw [hk] at hu; exact ⟨q, rfl, hu⟩
    have of : ∀ i q, κ x i = some q → ι2 i = ι q := fun i q hk => by simp only [ι2, hk]
    refine ⟨u, .row id, _, ι2, hy, ⟨x, hx, rfl, rfl⟩, ⟨fun i b hb => ?_, fun i u hu => ?_, fun i j u u' r hij hi hj => ?_, fun i u r hu => ?_, H.os, H.tape, H.output, H.size, H.keep, H.fresh, fun i u h1 hu => ?_, fun i u r hu => ?_, H.forb⟩, ?_⟩
    · obtain ⟨q, g1, g2, g3⟩ := h1 x hx i b hb
      obtain ⟨v, hv2, hB⟩ := H.blk q b g2
      exact ⟨v, by rw [of i q g1]; exact hv2, hB.plain g3⟩
    · obtain ⟨q, g1, g2⟩ := hι i u hu
      exact Option.isSome_iff_exists.1 (h2 x hx i q g1).2
    · obtain ⟨q, g1, g2⟩ := hι i u hi
      obtain ⟨q2, g3, g4⟩ := hι j u' hj
      refine H.inj q q2 u u' r ?_ g2 g4
      rintro rfl
      exact hij (h3 x hx i j q g1 g3)
    · obtain ⟨q, g1, g2⟩ := hι i u hu
      exact H.pm q u r g2
    · obtain ⟨q, g1, g2⟩ := hι i u hu
      have := (h2 x hx i q g1).1; omega
    · obtain ⟨q, g1, g2⟩ := hι i u hu
      exact H.nf q u r g2
    · cases hv with
      | row _ _ g1 g2 => exact .row id u g1 fun v2 hv2 => g2 v2 (by rw [← of id p (h4 x hx)]; exact hv2)⟩
end Go.Proofs.YtenolkolkpfjgaaGreat.Ab

namespace Go.Proofs.YtenolkolkpfjgaaGreat.Ab
set_option linter.unusedVariables false
set_option maxRecDepth 100000
open Go.RowKit Go.Lib
theorem entriesB_A (r b : Nat) (hr : r < 1000) (hb : b + 200 ≤ 1000) (hrb : r < b ∨ b + 200 ≤ r) (l : List Rte) (hok : ∀ s ∈ l, okR s) (hh : ∀ s ∈ l, 0 ≤ s.h ∧ s.h < 4294967296) (hn : l.length ≤ 200) :
    ACall Tryz.prog 5 [rtesA l] [] (fun c h => ∃ Y : List EntR, Y.map (·.x) = entsE l ∧ c = .row r ∧ h = (r, entRB Y) :: famE Y b) := by
  have hEl := entsE_len l
  have hlen : ∀ Y : List EntR, Y.map (·.x) = entsE l → Y.length ≤ 200 := fun Y hY => by
    have h1 : (Y.map (·.x)).length = (entsE l).length := by rw [hY]
    rw [List.length_map] at h1; omega
  have plE : ∀ Y : List EntR, plainB (entRB Y) = true := fun Y => by
    show (Y.flatMap entRD).all plainD = true
    rw [List.all_eq_true]
    intro c hc
    obtain ⟨x, _, hx⟩ := List.mem_flatMap.1 hc
    simp [entRD] at hx
    rcases hx with rfl | rfl | rfl | rfl <;> rfl
  refine ACall.reG (fun Y j => if j = r then some 950 else if b ≤ j ∧ j < b + Y.length then some (j - b + 100) else none) (entriesR_A l hok hh hn) (fun Y hY j bl hj => ?_) (fun Y hY j q hq => ?_) (fun Y hY i j q hi hj => ?_) (fun Y hY => if_pos rfl)
  · have hl := hlen Y hY
    by_cases h1 : r = j
    · subst h1
      rw [look_cons_same] at hj
      cases hj
      exact ⟨950, if_pos rfl, look_cons_same _ _ _, plE Y⟩
    · rw [look_cons_ne _ _ h1] at hj
      have hp := isX_plain (famE_in hj).2.2
      obtain ⟨i, hi, rfl, rfl⟩ := famE_inv Y b j bl hj
      refine ⟨100 + i, by rw [if_neg (fun h => h1 h.symm), if_pos ⟨by omega, by omega⟩, show b + i - b + 100 = 100 + i by omega], ?_, hp⟩
      rw [look_cons_ne _ _ (by omega)]
      exact famE_at Y 100 i hi
  · have hl := hlen Y hY
    split at hq
    · rename_i h1; subst h1; exact ⟨hr, by rw [look_cons_same]; rfl⟩
    · split at hq
      · rename_i h1 h2
        have := famE_at Y b (j - b) (by omega)
        rw [show b + (j - b) = j by omega] at this
        exact ⟨by omega, by rw [look_cons_ne _ _ (fun h => h1 h.symm), this]; rfl⟩
      · cases hq
  · have hl := hlen Y hY
    split at hi <;> split at hj
    · omega
    · split at hj
      · cases hi; injection hj with hj; omega
      · cases hj
    · split at hi
      · cases hj; injection hi with hi; omega
      · cases hi
    · split at hi <;> split at hj
      · cases hi; injection hj with hj; omega
      · cases hj
      · cases hi
      · cases hi
end Go.Proofs.YtenolkolkpfjgaaGreat.Ab

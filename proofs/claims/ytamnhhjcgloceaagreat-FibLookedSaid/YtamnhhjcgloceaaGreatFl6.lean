/-
  Texts of a proof, one behind the other (part 7).
-/
import Derived.Test.YtamnhhjcgloceaaGreatFl5
set_option linter.unusedVariables false
set_option linter.unusedSimpArgs false
namespace Go.Proofs.YtamnhhjcgloceaaGreat.Ab
set_option linter.unusedVariables false
set_option maxRecDepth 100000
open Go.RowKit Go.Lib
set_option linter.unusedSimpArgs false
attribute [local irreducible] AWp AOps AQ AYield AEff ACall AWk AAny AAt AThen AIn APost NoPanic
def goodP (l : List Rte) : List Pfx := (goodL l).map (·.p)
theorem goodP_take (l : List Rte) (k : Nat) (h : k < l.length) : goodP (l.take (k + 1)) = if chk l[k].p = 0 then goodP (l.take k) ++ [l[k].p] else goodP (l.take k) := by
  unfold goodP
  rw [goodL_take l k h]
  split
  · rw [List.map_append]; rfl
  · rfl

def tdH (el kk nn : Nat) (ds : List Dat) (G : Grp) (ps : List Pfx) : Heap := (1000, .var [.row 950]) :: (950, .row el kk nn ds) :: (5, pfxB ps) :: (90, gB (gE 100 G)) :: gR 100 G
abbrev tdE (l : List Rte) (f : FuncId) : Env := [(0, rtesA l), (1, .fn f [.ptr 1000 0]), (4, .mp 90), (5, .row 5)]
theorem see_tup2 {a b : AVal} : ∀ (w : World) (F : Nat → Prop) (ι : Nat → Option Value) (u : Value), VRel w F ι (.tup [a, b]) u → VRel w F ι (.tup [.top, b]) u := fun w F ι u h => by
  cases h with
  | tup _ C hl h =>
    refine .tup _ C hl fun i c u hc hu => ?_
    match i, hc, hu with
    | 0, hc, hu => cases hc; exact .top u
    | 1, hc, hu => exact h 1 c u hc hu
section
variable {el kk nn : Nat} {ds : List Dat} {G : Grp} {ps : List Pfx}
theorem td_none (j : Nat) (h : j < 100) (h5 : j ≠ 5) (h90 : j ≠ 90) : look (tdH el kk nn ds G ps) j = none := by
  unfold tdH
  rw [look_cons_ne _ _ (by omega), look_cons_ne _ _ (by omega), look_cons_ne _ _ (by omega), look_cons_ne _ _ (by omega)]
  cases hl : look (gR 100 G) j with
  | none => rfl
  | some b => obtain ⟨i, g, _, h2, _⟩ := gR_in _ _ _ _ hl; omega
theorem gR_kill (j : Nat) : ∀ (b : Nat) (G : Grp), (∀ i, i < G.length → b + i ≠ j) → killH j (gR b G) = gR b G
  | _, [], _ => rfl
  | b, g :: t, h => by
    have h0 := h 0 (by simp)
    show cond (Nat.beq b j) _ _ = _
    rw [beq_no (by simpa using h0), cond_false]
    show (b, rteB g.2) :: killH j (gR (b + 1) t) = _
    rw [gR_kill j (b + 1) t fun i hi => by have := h (i + 1) (by simpa using hi); omega]
    rfl
theorem gB_kill (j : Nat) (l : List (Pfx × GV)) (h : ∀ p ∈ l, p.2 ≠ .own j) : killB j (gB l) = gB l := by
  show ABlk.map ((ents pfxA gvA l).map fun p => (killV j p.1, killV j p.2)) = _
  rw [kill_gents, gK_out j l h]
  rfl
theorem gE_no (j : Nat) (G : Grp) (h : j < 100) : ∀ p ∈ gE 100 G, p.2 ≠ .own j := by
  rintro ⟨p, v⟩ hp
  obtain ⟨i, h1, h2, h3⟩ := gE_own _ _ _ _ hp
  dsimp only
  rw [h3]
  simp; omega
theorem td_kill (j : Nat) (h : j < 100) (h5 : j ≠ 5) (h90 : j ≠ 90) : killH j (tdH el kk nn ds G ps) = tdH el kk nn ds G ps := by
  have hk : ∀ (k : Nat) (b : ABlk) (r : Heap), k ≠ j → killH j ((k, b) :: r) = (k, killB j b) :: killH j r := fun k b r hne => by
    show cond (Nat.beq k j) _ _ = _
    rw [beq_no hne, cond_false]
  unfold tdH
  rw [hk _ _ _ (by omega), hk _ _ _ (by omega), hk _ _ _ (by omega), hk _ _ _ (by omega), gR_kill j 100 G fun i hi => by omega, gB_kill j]
  · show (1000, ABlk.var [killV j (.row 950)]) :: _ = _
    rw [show killV j (.row 950) = .row 950 by
      show cond (950 == j) _ _ = _
      rw [show ((950 : Nat) == j) = false by simp; omega]; rfl]
    rfl
  · rintro ⟨p, v⟩ hp
    obtain ⟨i, h1, h2, h3⟩ := gE_own _ _ _ _ hp
    dsimp only
    rw [h3]
    simp; omega
theorem td_over (j : Nat) (x : ABlk) {H : Heap} (hn : look (tdH el kk nn ds G ps) j = none) (hH : ∀ id b, look (tdH el kk nn ds G ps) id = some b → look H id = some b) : ∀ id b, look (tdH el kk nn ds G ps) id = some b → look ((j, x) :: H) id = some b := fun id b hb => by
  by_cases h : j = id
  · subst h; rw [hn] at hb; cases hb
  · rw [look_cons_ne _ _ h]; exact hH id b hb
theorem td_killup (j : Nat) (h : j < 100) (h5 : j ≠ 5) (h90 : j ≠ 90) {H : Heap} (hH : ∀ id b, look (tdH el kk nn ds G ps) id = some b → look H id = some b) : ∀ id b, look (tdH el kk nn ds G ps) id = some b → look (killH j H) id = some b := fun id b hb => by
  have hne : id ≠ j := by rintro rfl; rw [td_none id h h5 h90] at hb; cases hb
  rw [look_killH, if_neg hne, hH id b hb]
  have h2 : look (killH j (tdH el kk nn ds G ps)) id = look (tdH el kk nn ds G ps) id := by rw [td_kill j h h5 h90]
  rw [look_killH, if_neg hne, hb] at h2
  exact h2
theorem lk_cons {j : Nat} {x : ABlk} {H H1 : Heap} (hj : look H j = some x) (hH : ∀ id b, look H1 id = some b → look H id = some b) : ∀ id b, look ((j, x) :: H1) id = some b → look H id = some b := fun id b hb => by
  by_cases h : j = id
  · subst h; rw [look_cons_same] at hb; cases hb; exact hj
  · rw [look_cons_ne _ _ h] at hb; exact hH id b hb
theorem td_split {H : Heap} (h1 : look H 1000 = some (.var [.row 950])) (h2 : look H 950 = some (.row el kk nn ds)) (h3 : look H 5 = some (pfxB ps)) (h4 : look H 90 = some (gB (gE 100 G))) (h5 : ∀ i g, G[i]? = some g → look H (100 + i) = some (rteB g.2)) : ∀ id b, look (tdH el kk nn ds G ps) id = some b → look H id = some b :=
  lk_cons h1 (lk_cons h2 (lk_cons h3 (lk_cons h4 fun id b hb => by
    obtain ⟨i, g, g1, g2, g3⟩ := gR_in _ _ _ _ hb
    rw [g2, g3]; exact h5 i g g1)))
theorem td_row {i : Nat} {g : Pfx × List Rte} (h : G[i]? = some g) : look (tdH el kk nn ds G ps) (100 + i) = some (rteB g.2) ∨ 800 ≤ i := by
  by_cases hi : 800 ≤ i
  · exact .inr hi
  · unfold tdH
    rw [look_cons_ne _ _ (by omega), look_cons_ne _ _ (by omega), look_cons_ne _ _ (by omega), look_cons_ne _ _ (by omega)]
    exact .inl (gR_at _ _ _ _ h)
end
end Go.Proofs.YtamnhhjcgloceaaGreat.Ab

namespace Go.Proofs.YtamnhhjcgloceaaGreat.Ab
set_option linter.unusedVariables false
set_option maxRecDepth 100000
open Go.RowKit Go.Lib
section
variable {el kk nn : Nat} {ds : List Dat} {ps : List Pfx} {nt : Nat}
def tfH (el kk nn : Nat) (ds : List Dat) (ps : List Pfx) (D : Grp) (b : Nat) (G : Grp) : Heap := (1000, .var [.row 950]) :: (950, .row el kk nn ds) :: (5, pfxB ps) :: (90, gB (gX D ++ gE b G)) :: gR b G
theorem gvA_fr (id : Nat) (L : List Rte) (v : GV) : frV id (.sl (L.flatMap rteD) L.length) (gvA v) = gvA (if v = .own id then .fix L else v) := by
  cases v with
  | no => rw [if_neg (by simp)]; rfl
  | nil => rw [if_neg (by simp)]; rfl
  | fix l => rw [if_neg (by simp)]; rfl
  | own j =>
    by_cases h : j = id
    · subst h
      rw [if_pos rfl]
      show cond (Nat.beq j j) _ _ = _
      rw [beq_yes]; rfl
    · rw [if_neg (by simpa using h)]
      show cond (Nat.beq j id) _ _ = _
      rw [beq_no h]; rfl
theorem gB_fr (id : Nat) (L : List Rte) (l : List (Pfx × GV)) : frB id (.sl (L.flatMap rteD) L.length) (gB l) = gB (l.map fun p => (p.1, if p.2 = .own id then .fix L else p.2)) := by
  show ABlk.map ((ents pfxA gvA l).map fun p => (frV id _ p.1, frV id _ p.2)) = _
  unfold gB ents
  rw [List.map_map, List.map_map]
  refine congrArg ABlk.map (List.map_congr_left fun p _ => ?_)
  show (frV id _ (pfxA p.1), frV id _ (gvA p.2)) = _
  rw [gvA_fr]
  rfl
theorem fix_step (D : Grp) (b : Nat) (g : Pfx × List Rte) (t : Grp) : (gX D ++ gE b (g :: t)).map (fun p => (p.1, if p.2 = .own b then GV.fix g.2 else p.2)) = gX (D ++ [g]) ++ gE (b + 1) t := by
  rw [List.map_append, gE, List.map_cons, if_pos rfl]
  have h1 : (gX D).map (fun p => (p.1, if p.2 = .own b then GV.fix g.2 else p.2)) = gX D := by
    unfold gX
    rw [List.map_map]
    refine List.map_congr_left fun p _ => ?_
    show (p.1, if GV.fix p.2 = .own b then _ else _) = _
    rw [if_neg (by simp)]
  have h2 : (gE (b + 1) t).map (fun p => (p.1, if p.2 = .own b then GV.fix g.2 else p.2)) = gE (b + 1) t := by
    conv => rhs; rw [← List.map_id (gE (b + 1) t)]
    refine List.map_congr_left fun p hp => ?_
    obtain ⟨q, v⟩ := p
    obtain ⟨j, g1, g2, g3⟩ := gE_own _ _ _ _ hp
    dsimp only
    rw [g3, if_neg (by simp; omega)]; rfl
  rw [h1, h2]
  unfold gX
  rw [List.map_append, List.append_assoc]
  rfl
theorem Wk_look2 {e e1 : Env} {h h1 : Heap} (he : ∀ t c, look e1 t = some c → look e t = some c) (hh : ∀ id b, look h1 id = some b → look h id = some b) : AWk nt e h e1 h1 := fun Pm F w0 pin ι a w R =>
  ⟨only h1 ι, R.heap.only hh, fun t c ht => let ⟨u, hu, hv⟩ := R.env t c (he t c ht); ⟨u, hu, hv.only h1⟩, R.defers.ext (only_ext w F h1 ι), R.size⟩
theorem td_fix {e : Env} (he : ∀ j x, 100 ≤ j → j < 1000 → ∀ t c, look e t = some c → frV j x c = c) : ∀ (G D : Grp) (b : Nat), 100 ≤ b → b + G.length ≤ 800 → AWk nt e (tfH el kk nn ds ps D b G) e (tfH el kk nn ds ps (D ++ G) 0 [])
  | [], D, b, _, _ => by rw [List.append_nil]; exact AWk.refl
  | g :: t, D, b, hb, hl => by
    rw [List.length_cons] at hl
    have hrow : look (tfH el kk nn ds ps D b (g :: t)) b = some (.row 29 9 g.2.length (g.2.flatMap rteD)) := by
      unfold tfH
      rw [look_cons_ne _ _ (by omega), look_cons_ne _ _ (by omega), look_cons_ne _ _ (by omega), look_cons_ne _ _ (by omega)]
      exact look_cons_same _ _ _
    have ih := td_fix he t (D ++ [g]) (b + 1) (by omega) (by omega)
    rw [List.append_assoc, List.singleton_append] at ih
    refine AWk.trans (Wk_freeze hrow) (AWk.trans (Wk_look2 (fun s c hs => ?_) fun id x hx => ?_) ih)
    · rw [look_frE, hs]
      exact congrArg some (he b _ hb (by omega) s c hs)
    · rw [look_frH]
      have hne : id ≠ b := by
        rintro rfl
        unfold tfH at hx
        rw [look_cons_ne _ _ (by omega), look_cons_ne _ _ (by omega), look_cons_ne _ _ (by omega), look_cons_ne _ _ (by omega)] at hx
        obtain ⟨i, g2, _, h2, _⟩ := gR_in _ _ _ _ hx
        omega
      rw [if_neg hne]
      revert hx
      unfold tfH
      by_cases h1 : 1000 = id
      · subst h1
        rw [look_cons_same, look_cons_same]
        rintro h; cases h
        show some (ABlk.var [cond (Nat.beq 950 b) _ _]) = _
        rw [beq_no (by omega)]; rfl
      rw [look_cons_ne _ _ h1, look_cons_ne _ _ h1]
      by_cases h2 : 950 = id
      · subst h2
        rw [look_cons_same, look_cons_same]
        rintro h; cases h; rfl
      rw [look_cons_ne _ _ h2, look_cons_ne _ _ h2]
      by_cases h3 : 5 = id
      · subst h3
        rw [look_cons_same, look_cons_same]
        rintro h; cases h; rfl
      rw [look_cons_ne _ _ h3, look_cons_ne _ _ h3]
      by_cases h4 : 90 = id
      · subst h4
        rw [look_cons_same, look_cons_same]
        rintro h; cases h
        show some (frB b _ (gB (gX D ++ gE b (g :: t)))) = _
        rw [gB_fr, fix_step]
      rw [look_cons_ne _ _ h4, look_cons_ne _ _ h4, gR, look_cons_ne _ _ (fun h => hne h.symm)]
      intro hx
      rw [hx]
      obtain ⟨i, g2, _, _, h5⟩ := gR_in _ _ _ _ hx
      rw [h5]; rfl
end
end Go.Proofs.YtamnhhjcgloceaaGreat.Ab

namespace Go.Proofs.YtamnhhjcgloceaaGreat.Ab
set_option linter.unusedVariables false
set_option maxRecDepth 100000
open Go.RowKit Go.Lib
structure Ent where
  p : Pfx
  x : Bool
  hs : List Hp
  deriving DecidableEq
def entD (x : Ent) : List Dat := [.sc (.int .u32 x.p.a), .sc (.int .i64 x.p.b), .sc (.bool x.x), .sl (x.hs.flatMap hopD) x.hs.length]
theorem entD_len (x : Ent) : (entD x).length = 4 := rfl
def entA (x : Ent) : AVal := .agg ((entD x).map AVal.d)
def entB (l : List Ent) : ABlk := .row 32 4 l.length (l.flatMap entD)
set_option linter.unusedSimpArgs false
attribute [local irreducible] AWp AOps AQ AYield AEff ACall AWk AAny AAt AThen AIn APost NoPanic
theorem entriesFn_A (x : Ent) (l : List Ent) (hn : l.length ≤ 1000000) : ACall Tryz.prog 24 [entA x, .ptr 1000 0] [(1000, .var [.row 950]), (950, entB l)] (fun c h => c = .tup [] ∧ h = [(1000, .var [.row 950]), (950, entB (if x.x || decide (0 < x.hs.length) then l ++ [x] else l))]) := by
  obtain ⟨⟨pa, pb⟩, b, hs⟩ := x
  refine ACall_of tabOk Tryz.func24 rfl Tryz.ntmps24 (congrArg Array.toList Tryz.results24) (by kernel_rfl) rfl ?_
  cases b with
  | true =>
    rw [show ((⟨⟨pa, pb⟩, true, hs⟩ : Ent).x || decide (0 < (⟨⟨pa, pb⟩, true, hs⟩ : Ent).hs.length)) = true from rfl, if_pos rfl]
    repeat (first | refine A_seq ?_ | refine A_block ?_ | refine R_list ?_ | ((first | apply O_y rfl rfl rfl | apply Q_y rfl rfl rfl); (first | exact q_1 | exact q_2 | exact q_3 | exact q_4 | exact q_5 | exact q_6 | exact q_7 | exact q_8 | exact q_9 | exact q_10 | exact q_11 | exact q_12 | exact q_13 | exact q_14 | exact q_15 | exact q_16 | exact q_17 | exact q_18 | exact q_19 | exact q_20 | exact q_21 | exact q_22 | exact q_23 | exact q_24 | fail)) | refine O_nil ?_ | refine Q_nil ?_ | refine q_j ?_ | refine q_k ?_ | refine q_d ?_ | refine q_a ?_ | refine q_b ?_ | refine q_c ?_ | refine A_ct rfl ?_ | refine A_cf rfl ?_ | refine A_skip ?_ | refine A_exit ?_ | refine A_ret ?_ | refine q_l ?_ | refine q_m ?_ | refine q_n ?_ | refine q_h ?_ | refine q_o ?_ | refine q_e ?_ | refine q_f ?_ | refine q_g ?_ | (first | refine O_appR tabOk rfl rfl rfl rfl rfl rfl rfl rfl rfl rfl rfl (by first | exact Src.row rfl | exact Src.dat _ _ | exact Src.nil) rfl (by omega) ?_ | refine O_appN tabOk rfl rfl rfl rfl rfl rfl rfl rfl rfl rfl (by first | exact Src.row rfl | exact Src.dat _ _ | exact Src.nil) rfl (by omega) ?_))
    exact X_endW AWk.refl rfl (h2 := [(1000, .var [.row 950]), (950, entB (l ++ [⟨⟨pa, pb⟩, true, hs⟩]))]) ⟨rfl, row_eq (by simp) (by simp [entD]) rfl, trivial⟩ ⟨rfl, rfl⟩
  | false =>
    by_cases h0 : 0 < hs.length
    · rw [show ((⟨⟨pa, pb⟩, false, hs⟩ : Ent).x || decide (0 < (⟨⟨pa, pb⟩, false, hs⟩ : Ent).hs.length)) = true by simp [h0], if_pos rfl]
      repeat (first | refine A_seq ?_ | refine A_block ?_ | refine R_list ?_ | ((first | apply O_y rfl rfl rfl | apply Q_y rfl rfl rfl); (first | exact q_1 | exact q_2 | exact q_3 | exact q_4 | exact q_5 | exact q_6 | exact q_7 | exact q_8 | exact q_9 | exact q_10 | exact q_11 | exact q_12 | exact q_13 | exact q_14 | exact q_15 | exact q_16 | exact q_17 | exact q_18 | exact q_19 | exact q_20 | exact q_21 | exact q_22 | exact q_23 | exact q_24 | fail)) | refine O_nil ?_ | refine Q_nil ?_ | refine q_j ?_ | refine q_k ?_ | refine q_d ?_ | refine q_a ?_ | refine q_b ?_ | refine q_c ?_ | refine A_ct rfl ?_ | refine A_cf rfl ?_ | refine A_skip ?_ | refine A_exit ?_ | refine A_ret ?_ | refine q_l ?_ | refine q_m ?_ | refine q_n ?_ | refine q_h ?_ | refine q_o ?_ | refine q_e ?_ | refine q_f ?_ | refine q_g ?_ | (first | refine O_appR tabOk rfl rfl rfl rfl rfl rfl rfl rfl rfl rfl rfl (by first | exact Src.row rfl | exact Src.dat _ _ | exact Src.nil) rfl (by omega) ?_ | refine O_appN tabOk rfl rfl rfl rfl rfl rfl rfl rfl rfl rfl (by first | exact Src.row rfl | exact Src.dat _ _ | exact Src.nil) rfl (by omega) ?_))
      exact X_endW AWk.refl rfl (h2 := [(1000, .var [.row 950]), (950, entB (l ++ [⟨⟨pa, pb⟩, false, hs⟩]))]) ⟨rfl, row_eq (by simp) (by simp [entD]) rfl, trivial⟩ ⟨rfl, rfl⟩
    · rw [show ((⟨⟨pa, pb⟩, false, hs⟩ : Ent).x || decide (0 < (⟨⟨pa, pb⟩, false, hs⟩ : Ent).hs.length)) = false by simp [h0], if_neg (by simp)]
      repeat (first | refine A_seq ?_ | refine A_block ?_ | refine R_list ?_ | ((first | apply O_y rfl rfl rfl | apply Q_y rfl rfl rfl); (first | exact q_1 | exact q_2 | exact q_3 | exact q_4 | exact q_5 | exact q_6 | exact q_7 | exact q_8 | exact q_9 | exact q_10 | exact q_11 | exact q_12 | exact q_13 | exact q_14 | exact q_15 | exact q_16 | exact q_17 | exact q_18 | exact q_19 | exact q_20 | exact q_21 | exact q_22 | exact q_23 | exact q_24 | fail)) | refine O_nil ?_ | refine Q_nil ?_ | refine q_j ?_ | refine q_k ?_ | refine q_d ?_ | refine q_a ?_ | refine q_b ?_ | refine q_c ?_ | refine A_ct rfl ?_ | refine A_cf rfl ?_ | refine A_skip ?_ | refine A_exit ?_ | refine A_ret ?_ | refine q_l ?_ | refine q_m ?_ | refine q_n ?_ | refine q_h ?_ | refine q_o ?_ | refine q_e ?_ | refine q_f ?_ | refine q_g ?_ | (first | refine O_appR tabOk rfl rfl rfl rfl rfl rfl rfl rfl rfl rfl rfl (by first | exact Src.row rfl | exact Src.dat _ _ | exact Src.nil) rfl (by omega) ?_ | refine O_appN tabOk rfl rfl rfl rfl rfl rfl rfl rfl rfl rfl (by first | exact Src.row rfl | exact Src.dat _ _ | exact Src.nil) rfl (by omega) ?_))
      exact X_endW AWk.refl rfl (h2 := [(1000, .var [.row 950]), (950, entB l)]) ⟨rfl, rfl, trivial⟩ ⟨rfl, rfl⟩
end Go.Proofs.YtamnhhjcgloceaaGreat.Ab

namespace Go.Proofs.YtamnhhjcgloceaaGreat.Ab
set_option linter.unusedVariables false
open Go.RowKit
section
variable {nt : Nat} {e : Env} {h : Heap}
theorem Wk_nilC {b id i : Nat} {cs : List AVal} (el k : Nat) (hb : look h b = some (.var cs)) (hi : cs[i]? = some (.d (.sc (.slice none 0 0)))) (hid : Nat.blt id 1000 = true) (hne : Nat.beq b id = false) :
    AWk nt e h (killE id e) ((b, .var ((cs.map (killV id)).set i (.row id))) :: (id, .row el k 0 []) :: killH id h) := fun Pm F w0 pin ι a w R => by
  have hid' : id < 1000 := by simp [Nat.blt] at hid; omega
  have hne' := of_beq_no hne
  have TT : Touch w ι id (.slice none 0 0) w := ⟨rfl, rfl, rfl, Nat.le_refl _, fun _ _ _ => rfl, fun r hr => by cases hr⟩
  have H1 := R.heap.touch TT (.inl hid') (b' := .row el k 0 []) ⟨[], World.ownsRow_nil _ _ _ _, rfl, by simp⟩
  obtain ⟨v, hv, r, C, T, rfl, hC, hlC, hrr⟩ := R.heap.blk b _ hb
  have hv1 : upd ι id (some (.slice none 0 0)) b = some (.pointer (some ⟨r, 0, none⟩)) := by simp [upd, hne', hv]
  have hW : Wrote w (.pointer (some ⟨r, 0, none⟩)) w := ⟨rfl, rfl, rfl, Nat.le_refl _, fun _ _ _ => rfl⟩
  have H2 := H1.wrote (b' := .var ((cs.map (killV id)).set i (.row id))) hW hv1 ⟨r, C, T, rfl, hC, by rw [List.length_set, List.length_map]; exact hlC, fun j c u h1 h2 => by
    rw [List.getElem?_set] at h1
    by_cases hij : i = j
    · subst hij
      rw [if_pos rfl] at h1
      split at h1
      · cases h1
        have h3 := hrr i _ u hi h2
        refine .row id u (by rw [(sc_of h3).1]; rfl) fun v' hv' => ?_
        simp [upd] at hv'
        rw [(sc_of h3).1, hv']
      · cases h1
    · rw [if_neg hij, List.getElem?_map] at h1
      cases hc : cs[j]? with
      | none => rw [hc] at h1; cases h1
      | some c0 => rw [hc] at h1; cases h1; exact (hrr j c0 u hc h2).killed TT.ext⟩
  exact ⟨_, H2, R.env.killed TT.ext, R.defers.ext TT.ext, R.size⟩
theorem Wk_seeC {b i : Nat} {cs : List AVal} (hb : look h b = some (.var cs)) (hi : cs[i]? = some (.d (.sc (.slice none 0 0)))) : AWk nt e h e ((b, .var (cs.set i (.d (.sl [] 0)))) :: h) := fun Pm F w0 pin ι a w R => by
  obtain ⟨v, hv, r, C, T, rfl, hC, hlC, hrr⟩ := R.heap.blk b _ hb
  have hW : Wrote w (.pointer (some ⟨r, 0, none⟩)) w := ⟨rfl, rfl, rfl, Nat.le_refl _, fun _ _ _ => rfl⟩
  have H2 := R.heap.wrote (b' := .var (cs.set i (.d (.sl [] 0)))) hW hv ⟨r, C, T, rfl, hC, by rw [List.length_set]; exact hlC, fun j c u h1 h2 => by
    rw [List.getElem?_set] at h1
    by_cases hij : i = j
    · subst hij
      rw [if_pos rfl] at h1
      split at h1
      · cases h1; exact see_nil _ _ _ _ (hrr i _ u hi h2)
      · cases h1
    · rw [if_neg hij] at h1; exact hrr j c u h1 h2⟩
  exact ⟨_, H2, R.env, R.defers, R.size⟩
end
theorem see_ent {a b c : Dat} (w : World) (F : Nat → Prop) (ι : Nat → Option Value) (u : Value) (h : VRel w F ι (.agg [.d a, .d b, .d c, .d (.sc (.slice none 0 0))]) u) : VRel w F ι (.agg [.d a, .d b, .d c, .d (.sl [] 0)]) u := by
  cases h with
  | agg _ C hl h =>
    refine .agg _ C hl fun i c u hc hu => ?_
    match i, hc, hu with
    | 0, hc, hu => exact h 0 c u hc hu
    | 1, hc, hu => exact h 1 c u hc hu
    | 2, hc, hu => exact h 2 c u hc hu
    | 3, hc, hu => cases hc; exact see_nil _ _ _ _ (h 3 _ u rfl hu)
end Go.Proofs.YtamnhhjcgloceaaGreat.Ab

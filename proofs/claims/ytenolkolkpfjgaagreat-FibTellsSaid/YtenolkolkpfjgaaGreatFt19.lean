/-
  Texts of a proof, one behind the other (part 20).
-/
import Derived.Test.YtenolkolkpfjgaaGreatFt7
import Derived.Test.YtenolkolkpfjgaaGreatFt8
import Derived.Test.YtenolkolkpfjgaaGreatFt15
import Derived.Test.YtenolkolkpfjgaaGreatFt18
set_option linter.unusedVariables false
set_option linter.unusedSimpArgs false
namespace Go.Proofs.YtenolkolkpfjgaaGreat.Ab
set_option linter.unusedVariables false
set_option maxRecDepth 100000
open Go.RowKit Go.Lib
set_option linter.unusedSimpArgs false
attribute [local irreducible] AWp AOps AQ AYield AEff ACall AWk AAny AAt AThen AIn APost NoPanic
theorem fsorted_A (l : List Hp) (hl : l.length ≤ 2147483648) : ACall Tryz.prog 36 [.row 1000] [(1000, hopB l)] (fun c h => c = .row 100 ∧ h = [(100, hopB (sortU ordH l))]) := by
  have h2 := sortH_A l hl
  have h3 := compactH_A (srt ordH l) (by rw [srt_len]; exact hl)
  refine ACall_of tabOk Tryz.func36 rfl Tryz.ntmps36 (congrArg Array.toList Tryz.results36) (by kernel_rfl) rfl ?_
  refine A_weaken (Wk_rename (id := 100) (t := 0) rfl rfl) ?_
  repeat (first | refine q_Z ?_ | refine R_quiet rfl mixed (by kernel_rfl) ?_ | ((first | apply O_y rfl rfl rfl | apply Q_y rfl rfl rfl); (first | exact q_A | exact q_5 | exact q_B)) | refine q_d ?_ | refine q_a ?_ | refine q_b ?_ | refine q_c ?_ | refine A_ct rfl ?_ | refine A_cf rfl ?_ | refine q_W ?_)
  refine O_cP [(1000, 100)] (fun p p' i h1 h2 => by rw [(look_one' h1).1, (look_one' h2).1]) (fun p i h1 => by rw [(look_one' h1).1]; exact ⟨Nat.le_refl _, rfl, rfl⟩) h2 (fun c hc => by simp at hc; rcases hc with rfl | rfl <;> rfl) ⟨⟨100, _, rfl, rfl, rfl, trivial⟩, trivial⟩ rfl rfl rfl rfl rfl rfl ?_
  repeat (first | refine q_Z ?_ | refine R_quiet rfl mixed (by kernel_rfl) ?_ | ((first | apply O_y rfl rfl rfl | apply Q_y rfl rfl rfl); (first | exact q_A | exact q_5 | exact q_B)) | refine q_d ?_ | refine q_a ?_ | refine q_b ?_ | refine q_c ?_ | refine A_ct rfl ?_ | refine A_cf rfl ?_ | refine q_W ?_)
  refine O_cM rfl rfl rfl rfl rfl h3 rfl (fun c hc => by simp at hc; subst hc; rfl) rfl rfl ?_
  repeat (first | refine q_Z ?_ | refine R_quiet rfl mixed (by kernel_rfl) ?_ | ((first | apply O_y rfl rfl rfl | apply Q_y rfl rfl rfl); (first | exact q_A | exact q_5 | exact q_B)) | refine q_d ?_ | refine q_a ?_ | refine q_b ?_ | refine q_c ?_ | refine A_ct rfl ?_ | refine A_cf rfl ?_ | refine q_W ?_)
  exact X_retW AWk.refl rfl (h2 := [(100, hopB (sortU ordH l))]) ⟨rfl, trivial⟩ ⟨rfl, rfl⟩
abbrev ledRho : List (Nat × Nat) := [(1000, 6), (1001, 2), (1002, 7), (1003, 5), (1004, 903)]
theorem ledRho_cases (p i : Nat) (h : look ledRho p = some i) : (p = 1000 ∧ i = 6) ∨ (p = 1001 ∧ i = 2) ∨ (p = 1002 ∧ i = 7) ∨ (p = 1003 ∧ i = 5) ∨ (p = 1004 ∧ i = 903) := by
  by_cases h0 : 1000 = p
  · subst h0; rw [look_cons_same] at h; cases h; simp
  rw [look_cons_ne _ _ h0] at h
  by_cases h1 : 1001 = p
  · subst h1; rw [look_cons_same] at h; cases h; simp
  rw [look_cons_ne _ _ h1] at h
  by_cases h2 : 1002 = p
  · subst h2; rw [look_cons_same] at h; cases h; simp
  rw [look_cons_ne _ _ h2] at h
  by_cases h3 : 1003 = p
  · subst h3; rw [look_cons_same] at h; cases h; simp
  rw [look_cons_ne _ _ h3] at h
  by_cases h4 : 1004 = p
  · subst h4; rw [look_cons_same] at h; cases h; simp
  rw [look_cons_ne _ _ h4] at h; cases h
theorem ledRho_inj (p p' i : Nat) (h1 : look ledRho p = some i) (h2 : look ledRho p' = some i) : p = p' := by
  have := ledRho_cases p i h1
  have := ledRho_cases p' i h2
  omega
theorem ledRho_dom (l V : List Rte) (O : List Hp) (p i : Nat) (h : look ledRho p = some i) : 1000 ≤ p ∧ (look (onH l V O) p).isSome = true ∧ ∀ x : List Rte × List Hp, (look (onH l x.1 x.2) p).isSome = true := by
  rcases ledRho_cases p i h with ⟨rfl, _⟩ | ⟨rfl, _⟩ | ⟨rfl, _⟩ | ⟨rfl, _⟩ | ⟨rfl, _⟩ <;> exact ⟨by omega, rfl, fun _ => rfl⟩
theorem ledNu_ok (p i : Nat) (h : look onNu p = some i) : p < 1000 ∧ i < 1000 ∧ ∀ q, look ledRho q ≠ some i := by
  obtain ⟨h1, h2⟩ := onNu_same p i h
  simp at h2
  subst h1
  refine ⟨by omega, by omega, fun q hq => ?_⟩
  have := ledRho_cases q p hq
  omega
set_option maxHeartbeats 8000000 in
theorem led_A (l : List Rte) (r : Rte) (hok : ∀ s ∈ l, okR s) (hh : ∀ s ∈ r :: l, 0 ≤ s.h ∧ s.h < 4294967296) (hn : l.length ≤ 1000) :
    ACall Tryz.prog 27 [rtesA l, rteA r] [] (fun c h => c = .row 950 ∧ h = [(950, hopB (ledH l r))]) := by
  have hon := on_A l r hok hh hn (leftN l ([] ++ [r])) r [] []
  obtain ⟨⟨pa, pb⟩, f, d, m, t, i, a, x⟩ := r
  cases x with
  | true =>
    rw [show ledH l ⟨⟨pa, pb⟩, f, d, m, t, i, a, true⟩ = [] by unfold ledH; rfl]
    refine ACall_of tabOk Tryz.func27 rfl Tryz.ntmps27 (congrArg Array.toList Tryz.results27) (by kernel_rfl) rfl ?_
    repeat (first | refine q_Z ?_ | ((first | apply O_y rfl rfl rfl | apply Q_y rfl rfl rfl); (first | exact q_A | exact q_5 | exact q_B)) | refine q_d ?_ | refine q_a ?_ | refine q_b ?_ | refine q_c ?_ | refine A_ct rfl ?_ | refine A_cf rfl ?_ | refine q_W ?_)
    exact X_retW (Wk_nil 66 2 (t := 4) (id := 950) rfl rfl) rfl (h2 := [(950, hopB [])]) ⟨rfl, trivial⟩ ⟨rfl, rfl⟩
  | false =>
    by_cases hi : i = []
    · have hpre : OnPre l ⟨⟨pa, pb⟩, f, d, m, t, i, a, false⟩ ⟨⟨pa, pb⟩, f, d, m, t, i, a, false⟩ [] [] := ⟨by simp, .nil, hi, by simp, by simp, .inl rfl, by simp⟩
      have hon := hon hpre (Nat.le_refl _)
      refine ACall_of tabOk Tryz.func27 rfl Tryz.ntmps27 (congrArg Array.toList Tryz.results27) (by kernel_rfl) rfl ?_
      repeat (first | refine q_Z ?_ | ((first | apply O_y rfl rfl rfl | apply Q_y rfl rfl rfl); (first | exact q_A | exact q_5 | exact q_B | (first | exact R_sF rfl rfl rfl rfl (by simp [hi]) | exact Y_makeFunc rfl rfl))) | refine q_d ?_ | refine q_a ?_ | refine q_b ?_ | refine q_c ?_ | refine A_ct rfl ?_ | refine A_cf rfl ?_ | refine q_W ?_ | (refine O_makeMap 903 rfl rfl rfl rfl rfl ?_))
      refine O_weaken (Wk_nilB (b := 5) (id := 950) 66 2 rfl rfl rfl) ?_
      refine O_weaken (Wk_sel (e1 := [(5, .ptr 5 0), (21, .fn 40 [.ptr 6 0, .ptr 2 0, .ptr 7 0, .ptr 5 0]), (22, rteA ⟨⟨pa, pb⟩, f, d, m, t, i, a, false⟩)]) (h1 := [(6, .var [.mp 903]), (2, .var [rtesA l]), (7, .var [.fn 40 [.ptr 6 0, .ptr 2 0, .ptr 7 0, .ptr 5 0]]), (5, .var [.row 950]), (903, wasB []), (950, hopB [])]) ⟨rfl, rfl, rfl, trivial⟩ ⟨rfl, rfl, rfl, rfl, rfl, rfl, trivial⟩) ?_
      refine O_cTV (α := List Rte × List Hp) (C := fun _ => .tup []) (H1 := fun x => onH l x.1 x.2) (Φ := fun x => Walk l ⟨⟨pa, pb⟩, f, d, m, t, i, a, false⟩ [] [] x.1 x.2) ledRho onNu 950 950 ledRho_inj (ledRho_dom l [] []) ledNu_ok onNu_inj (by decide) (by decide) (by omega) rfl ⟨950, rfl⟩ hon rfl ⟨⟨6, _, rfl, rfl, rfl, fun c hc => by simp at hc; subst hc; rfl⟩, ⟨2, _, rfl, rfl, rfl, fun c hc => by simp at hc; subst hc; rfl⟩, ⟨7, _, rfl, rfl, rfl, fun c hc => by simp at hc; subst hc; rfl⟩, ⟨5, _, rfl, rfl, rfl, fun c hc => by simp at hc; subst hc; rfl⟩, ⟨903, _, rfl, rfl, ren_was _ [], ok_was _ []⟩, ⟨950, _, rfl, rfl, rfl, trivial⟩, trivial⟩ rfl rfl rfl rfl rfl rfl rfl rfl ?_
      rintro ⟨V, O⟩ W
      dsimp only at W ⊢
      have hVl := nodup_le V (⟨⟨pa, pb⟩, f, d, m, t, i, a, false⟩ :: l) W.nd fun s hs => by
        rcases W.sub s hs with h | h | h
        · cases h
        · rw [h]; simp
        · exact List.mem_cons_of_mem _ h
      rw [List.length_cons] at hVl
      have hOl : O.length ≤ V.length * 1000 := by have := W.len; simp at this; omega
      have hs := fsorted_A O (by omega)
      rw [ledH_of rfl hi fun x => W.hops x] at hs
      refine O_weaken (Wk_sel (e1 := [(5, .ptr 5 0)]) (h1 := [(5, .var [.row 950]), (950, hopB O)]) ⟨rfl, trivial⟩ ⟨rfl, rfl, trivial⟩) ?_
      repeat (first | refine q_Z ?_ | ((first | apply O_y rfl rfl rfl | apply Q_y rfl rfl rfl); (first | exact q_A | exact q_5 | exact q_B)) | refine q_d ?_ | refine q_a ?_ | refine q_b ?_ | refine q_c ?_ | refine A_ct rfl ?_ | refine A_cf rfl ?_ | refine q_W ?_)
      refine O_cM rfl rfl rfl rfl rfl hs rfl (fun c hc => by simp at hc; subst hc; rfl) rfl rfl ?_
      repeat (first | refine q_Z ?_ | ((first | apply O_y rfl rfl rfl | apply Q_y rfl rfl rfl); (first | exact q_A | exact q_5 | exact q_B)) | refine q_d ?_ | refine q_a ?_ | refine q_b ?_ | refine q_c ?_ | refine A_ct rfl ?_ | refine A_cf rfl ?_ | refine q_W ?_)
      exact X_retW AWk.refl rfl (h2 := [(950, hopB (ledH l ⟨⟨pa, pb⟩, f, d, m, t, i, a, false⟩))]) ⟨rfl, trivial⟩ ⟨rfl, rfl⟩
    · rw [show ledH l ⟨⟨pa, pb⟩, f, d, m, t, i, a, false⟩ = [⟨i, a⟩] by unfold ledH; simp [hi]]
      refine ACall_of tabOk Tryz.func27 rfl Tryz.ntmps27 (congrArg Array.toList Tryz.results27) (by kernel_rfl) rfl ?_
      repeat (first | refine q_Z ?_ | ((first | apply O_y rfl rfl rfl | apply Q_y rfl rfl rfl); (first | exact q_A | exact q_5 | exact q_B | (exact R_sT rfl rfl rfl rfl (by simp [hi])))) | refine q_d ?_ | refine q_a ?_ | refine q_b ?_ | refine q_c ?_ | refine A_ct rfl ?_ | refine A_cf rfl ?_ | refine q_W ?_)
      exact X_retW (AWk.trans (Wk_sel (e1 := [(4, .row 18)]) (h1 := [(18, hopB [⟨i, a⟩])]) ⟨rfl, trivial⟩ ⟨rfl, trivial⟩) (Wk_rename (p := 18) (id := 950) (t := 4) rfl rfl)) rfl (h2 := [(950, hopB [⟨i, a⟩])]) ⟨rfl, trivial⟩ ⟨rfl, rfl⟩
end Go.Proofs.YtenolkolkpfjgaaGreat.Ab

namespace Go.Proofs.YtenolkolkpfjgaaGreat.Ab
set_option linter.unusedVariables false
set_option maxRecDepth 100000
open Go.RowKit Go.Lib
inductive GV where
  | no
  | nil
  | own (j : Nat)
  | fix (l : List Rte)
  deriving DecidableEq
def gvA : GV → AVal
  | .no => .top
  | .nil => .d (.sc (.slice none 0 0))
  | .own j => .row j
  | .fix l => rtesA l
abbrev Grp := List (Pfx × List Rte)
def gE (b : Nat) : Grp → List (Pfx × GV)
  | [] => []
  | g :: t => (g.1, .own b) :: gE (b + 1) t
def gR (b : Nat) : Grp → Heap
  | [] => []
  | g :: t => (b, rteB g.2) :: gR (b + 1) t
def gX (G : Grp) : List (Pfx × GV) := G.map fun g => (g.1, .fix g.2)
def gB (l : List (Pfx × GV)) : ABlk := .map (ents pfxA gvA l)
theorem gE_keys : ∀ (b : Nat) (G : Grp), (gE b G).map (·.1) = G.map (·.1)
  | _, [] => rfl
  | b, g :: t => by rw [gE, List.map_cons, List.map_cons, gE_keys]
theorem gE_at : ∀ (b : Nat) (G : Grp) (i : Nat) (g : Pfx × List Rte), G[i]? = some g → (gE b G)[i]? = some (g.1, .own (b + i))
  | _, [], i, g, h => by simp at h
  | b, g0 :: t, 0, g, h => by cases h; rfl
  | b, g0 :: t, i + 1, g, h => by
    have := gE_at (b + 1) t i g (by simpa using h)
    rw [gE, List.getElem?_cons_succ, this, Nat.add_assoc, Nat.add_comm 1 i]
theorem gE_snoc : ∀ (b : Nat) (G : Grp) (g : Pfx × List Rte), gE b (G ++ [g]) = gE b G ++ [(g.1, .own (b + G.length))]
  | b, [], g => rfl
  | b, g0 :: t, g => by
    rw [List.cons_append, gE, gE_snoc, gE, List.cons_append, List.length_cons, Nat.add_assoc, Nat.add_comm 1 t.length]
theorem gE_set : ∀ (b : Nat) (G : Grp) (i : Nat) (g : Pfx × List Rte) (L : List Rte), G[i]? = some g → gE b (G.set i (g.1, L)) = gE b G
  | b, [], i, g, L, h => by simp at h
  | b, g0 :: t, 0, g, L, h => by cases h; rfl
  | b, g0 :: t, i + 1, g, L, h => by
    have := gE_set (b + 1) t i g L (by simpa using h)
    rw [List.set_cons_succ, gE, gE, this]
theorem gE_own : ∀ (b : Nat) (G : Grp) (p : Pfx) (v : GV), (p, v) ∈ gE b G → ∃ j, b ≤ j ∧ j < b + G.length ∧ v = .own j
  | b, [], p, v, h => by cases h
  | b, g0 :: t, p, v, h => by
    rw [gE] at h
    rcases List.mem_cons.1 h with h | h
    · cases h; exact ⟨b, by omega, by simp, rfl⟩
    · obtain ⟨j, h1, h2, h3⟩ := gE_own (b + 1) t p v h
      exact ⟨j, by omega, by rw [List.length_cons]; omega, h3⟩
theorem gR_at : ∀ (b : Nat) (G : Grp) (i : Nat) (g : Pfx × List Rte), G[i]? = some g → look (gR b G) (b + i) = some (rteB g.2)
  | _, [], i, g, h => by simp at h
  | b, g0 :: t, 0, g, h => by cases h; exact look_cons_same _ _ _
  | b, g0 :: t, i + 1, g, h => by
    rw [gR, look_cons_ne _ _ (by omega)]
    have := gR_at (b + 1) t i g (by simpa using h)
    rw [← this]; congr 1; omega
theorem gR_in : ∀ (b : Nat) (G : Grp) (id : Nat) (x : ABlk), look (gR b G) id = some x → ∃ i g, G[i]? = some g ∧ id = b + i ∧ x = rteB g.2
  | _, [], id, x, h => by cases h
  | b, g0 :: t, id, x, h => by
    by_cases hb : b = id
    · subst hb
      rw [gR, look_cons_same] at h
      cases h
      exact ⟨0, g0, rfl, rfl, rfl⟩
    · rw [gR, look_cons_ne _ _ hb] at h
      obtain ⟨i, g, h1, h2, h3⟩ := gR_in (b + 1) t id x h
      exact ⟨i + 1, g, by simpa using h1, by omega, h3⟩
def gK (id : Nat) (l : List (Pfx × GV)) : List (Pfx × GV) := l.map fun p => (p.1, if p.2 = .own id then .no else p.2)
theorem gvA_kill (id : Nat) (v : GV) : killV id (gvA v) = gvA (if v = .own id then .no else v) := by
  cases v with
  | no => rw [if_neg (by simp)]; rfl
  | nil => rw [if_neg (by simp)]; rfl
  | fix l => rw [if_neg (by simp)]; rfl
  | own j =>
    by_cases h : j = id
    · subst h
      rw [if_pos rfl]
      show cond (j == j) _ _ = _
      simp [gvA]
    · rw [if_neg (by simpa using h)]
      show cond (j == id) _ _ = _
      rw [show (j == id) = false by simpa using h]
      rfl
theorem kill_gents (id : Nat) (l : List (Pfx × GV)) : (ents pfxA gvA l).map (fun p => (killV id p.1, killV id p.2)) = ents pfxA gvA (gK id l) := by
  unfold ents gK
  rw [List.map_map, List.map_map]
  refine List.map_congr_left fun p _ => ?_
  show (killV id (pfxA p.1), killV id (gvA p.2)) = _
  rw [gvA_kill]
  rfl
theorem gK_out (id : Nat) (l : List (Pfx × GV)) (h : ∀ p ∈ l, p.2 ≠ .own id) : gK id l = l := by
  unfold gK
  conv => rhs; rw [← List.map_id l]
  refine List.map_congr_left fun p hp => ?_
  rw [if_neg (h p hp)]; rfl
theorem gK_set : ∀ (b : Nat) (G : Grp) (i : Nat) (g : Pfx × List Rte), G[i]? = some g → (gK (b + i) (gE b G)).set i (g.1, .own (b + i)) = gE b G
  | b, [], i, g, h => by simp at h
  | b, g0 :: t, 0, g, h => by
    cases h
    rw [gE]
    show (_ :: gK (b + 0) (gE (b + 1) t)).set 0 _ = _
    rw [List.set_cons_zero, gK_out]
    · rfl
    · rintro ⟨p, v⟩ hp
      obtain ⟨j, h1, h2, h3⟩ := gE_own _ _ _ _ hp
      dsimp only
      rw [h3]
      simp; omega
  | b, g0 :: t, i + 1, g, h => by
    have := gK_set (b + 1) t i g (by simpa using h)
    rw [gE]
    show (((g0.1, if (GV.own b) = .own (b + (i + 1)) then GV.no else .own b) :: gK (b + (i + 1)) (gE (b + 1) t)).set (i + 1) _) = _
    rw [List.set_cons_succ, if_neg (by simp), show b + (i + 1) = b + 1 + i by omega, this]
theorem gK_snoc (b : Nat) (G : Grp) (p : Pfx) : gK (b + G.length) (gE b G ++ [(p, .nil)]) = gE b G ++ [(p, .nil)] := gK_out _ _ fun q hq => by
  rcases List.mem_append.1 hq with hq | hq
  · obtain ⟨p', v⟩ := q
    obtain ⟨j, h1, h2, h3⟩ := gE_own _ _ _ _ hq
    dsimp only
    rw [h3]
    simp; omega
  · simp at hq; rw [hq]; simp
theorem Wk_look {nt : Nat} {e e1 : Env} {h h1 : Heap} (he : Sub e1 e) (hh : ∀ id b, look h1 id = some b → look h id = some b) : AWk nt e h e1 h1 := fun Pm F w0 pin ι a w R =>
  ⟨only h1 ι, R.heap.only hh, fun t c ht => let ⟨u, hu, hv⟩ := R.env t c (he.look ht); ⟨u, hu, hv.only h1⟩, R.defers.ext (only_ext w F h1 ι), R.size⟩
end Go.Proofs.YtenolkolkpfjgaaGreat.Ab

namespace Go.Proofs.YtenolkolkpfjgaaGreat.Ab
set_option linter.unusedVariables false
open Go.RowKit Go.Lib
def goodL (l : List Rte) : List Rte := l.filter fun r => decide (chk r.p = 0)
def grp1 (G : Grp) (r : Rte) : Grp := Go.Proofs.YtenolkolkpfjgaaGreat.aput G r.p ((Go.Proofs.YtenolkolkpfjgaaGreat.aget G r.p).getD [] ++ [r])
def grp (l : List Rte) : Grp := (goodL l).foldl grp1 []
theorem goodL_take (l : List Rte) (k : Nat) (h : k < l.length) : goodL (l.take (k + 1)) = if chk l[k].p = 0 then goodL (l.take k) ++ [l[k]] else goodL (l.take k) := by
  unfold goodL
  rw [List.take_succ_eq_append_getElem h, List.filter_append]
  by_cases hc : chk l[k].p = 0
  · rw [if_pos hc]; simp [hc]
  · rw [if_neg hc]; simp [hc]
theorem grp_take (l : List Rte) (k : Nat) (h : k < l.length) : grp (l.take (k + 1)) = if chk l[k].p = 0 then grp1 (grp (l.take k)) l[k] else grp (l.take k) := by
  unfold grp
  rw [goodL_take l k h]
  split
  · rw [List.foldl_append]; rfl
  · rfl
theorem grp1_nd {G : Grp} (h : (G.map (·.1)).Nodup) (r : Rte) : ((grp1 G r).map (·.1)).Nodup := aput_nodup h
theorem grp_nd (l : List Rte) : ((grp l).map (·.1)).Nodup := by
  have key : ∀ (m : List Rte) (G : Grp), (G.map (·.1)).Nodup → ((m.foldl grp1 G).map (·.1)).Nodup := by
    intro m
    induction m with
    | nil => exact fun G h => h
    | cons a t ih => exact fun G h => ih _ (grp1_nd h a)
  exact key _ _ (by simp)
theorem grp_get (l : List Rte) (p : Pfx) : (Go.Proofs.YtenolkolkpfjgaaGreat.aget (grp l) p).getD [] = ofP (goodL l) p := by
  have key : ∀ (m : List Rte) (G : Grp), (G.map (·.1)).Nodup → (Go.Proofs.YtenolkolkpfjgaaGreat.aget (m.foldl grp1 G) p).getD [] = (Go.Proofs.YtenolkolkpfjgaaGreat.aget G p).getD [] ++ ofP m p := by
    intro m
    induction m with
    | nil => intro G _; simp [ofP]
    | cons a t ih =>
      intro G h
      rw [List.foldl_cons, ih _ (grp1_nd h a)]
      unfold grp1
      rw [aget_aput h]
      unfold ofP
      by_cases hp : p = a.p
      · subst hp
        rw [if_pos rfl, List.filter_cons, if_pos (by simp)]
        simp
      · rw [if_neg hp, List.filter_cons, if_neg (by simpa using fun h => hp h.symm)]
  have := key (goodL l) [] (by simp)
  unfold grp
  rw [this]
  simp [Go.Proofs.YtenolkolkpfjgaaGreat.aget, Go.Proofs.YtenolkolkpfjgaaGreat.mget]
theorem mget_gE : ∀ (b : Nat) (G : Grp) (p : Pfx), Go.Proofs.YtenolkolkpfjgaaGreat.mget (gE b G) p = (Go.Proofs.YtenolkolkpfjgaaGreat.mget G p).map fun x => (x.1, GV.own (b + x.1))
  | _, [], _ => rfl
  | b, g :: t, p => by
    rw [gE]
    unfold Go.Proofs.YtenolkolkpfjgaaGreat.mget
    obtain ⟨q, L⟩ := g
    dsimp only
    by_cases hp : p = q
    · rw [if_pos hp, if_pos hp]; rfl
    · rw [if_neg hp, if_neg hp, mget_gE (b + 1) t p]
      cases Go.Proofs.YtenolkolkpfjgaaGreat.mget t p with
      | none => rfl
      | some x => simp; omega
theorem grp1_new {G : Grp} {r : Rte} (h : Go.Proofs.YtenolkolkpfjgaaGreat.mget G r.p = none) : grp1 G r = G ++ [(r.p, [r])] := by
  unfold grp1 Go.Proofs.YtenolkolkpfjgaaGreat.aget Go.Proofs.YtenolkolkpfjgaaGreat.aput
  rw [h]; rfl
theorem grp1_old {G : Grp} {r : Rte} {i : Nat} {L : List Rte} (h : Go.Proofs.YtenolkolkpfjgaaGreat.mget G r.p = some (i, L)) : grp1 G r = G.set i (r.p, L ++ [r]) := by
  unfold grp1 Go.Proofs.YtenolkolkpfjgaaGreat.aget Go.Proofs.YtenolkolkpfjgaaGreat.aput
  rw [h]; rfl
theorem grp1_len (G : Grp) (r : Rte) : (grp1 G r).length ≤ G.length + 1 := by
  unfold grp1
  rw [aput_length]
  split <;> omega
theorem grp_len (l : List Rte) : (grp l).length ≤ l.length := by
  have key : ∀ (m : List Rte) (G : Grp), (m.foldl grp1 G).length ≤ G.length + m.length := by
    intro m
    induction m with
    | nil => exact fun G => Nat.le_refl _
    | cons a t ih => intro G; have := ih (grp1 G a); have := grp1_len G a; rw [List.foldl_cons, List.length_cons]; omega
  have := key (goodL l) []
  have h2 : (goodL l).length ≤ l.length := List.length_filter_le _ _
  unfold grp
  simp at this
  omega
end Go.Proofs.YtenolkolkpfjgaaGreat.Ab

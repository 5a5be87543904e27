/-
  trie.Cover: what it computes.
-/
import Derived.Test.YtplgpbadpdmeeaaSortP
import Derived.Test.YtplgpbadpdmeeaaAddrW5
import Derived.Deep.AppendLies
namespace Go.Proofs.Ytplgpbadpdmeeaa
set_option linter.unusedVariables false
open Go.RowKit Go.Sort Go.Lib

/-- b goes onto the stack s; as long as it and the one below are halves they become the whole. -/
def joinTo (b : Pfx) : List Pfx → List Pfx
  | [] => [b]
  | a :: t => if a.b = b.b ∧ (commonP a b).b = a.b - 1 then joinTo (commonP a b) t else b :: a :: t
def coverStep (s : List Pfx) (p : Pfx) : List Pfx :=
  match s with
  | [] => [p]
  | q :: t => if withinB p q then q :: t else joinTo p (q :: t)
def goods (l : List Pfx) : List Pfx := l.filter fun p => chk p == 0
/-- The stack, the last first. -/
def coverS (l : List Pfx) : List Pfx := (sortP (goods l)).foldl coverStep []
def coverT (l : List Pfx) : List Pfx := (coverS l).reverse

def fine (p : Pfx) : Prop := p.ok ∧ good p
theorem commonP_fine (p q : Pfx) (hp : fine p) (hq : fine q) : fine (commonP p q) := by
  have h1 := cb_le (min p.b q.b).toNat p.a q.a
  have h2 := hp.2.2.1
  have h3 : cb (min p.b q.b).toNat p.a q.a ≤ 32 := by omega
  refine ⟨?_, sub_good p.a _ h3 hp.1.1⟩
  have := sz_pos (cb (min p.b q.b).toNat p.a q.a)
  have h4 : p.a / sz (cb (min p.b q.b).toNat p.a q.a) * sz (cb (min p.b q.b).toNat p.a q.a) ≤ p.a := Int.ediv_mul_le _ (by omega)
  have h5 : 0 ≤ p.a / sz (cb (min p.b q.b).toNat p.a q.a) * sz (cb (min p.b q.b).toNat p.a q.a) := Int.mul_nonneg (Int.ediv_nonneg hp.1.1 (by omega)) (by omega)
  exact ⟨h5, Int.lt_of_le_of_lt h4 hp.1.2.1, by show -9223372036854775808 ≤ ((cb (min p.b q.b).toNat p.a q.a : Nat) : Int); omega, by show ((cb (min p.b q.b).toNat p.a q.a : Nat) : Int) < _; omega⟩
theorem joinTo_fine (b : Pfx) (s : List Pfx) (hb : fine b) (hs : ∀ p ∈ s, fine p) : ∀ p ∈ joinTo b s, fine p := by
  induction s generalizing b with
  | nil => intro p hp; simp [joinTo] at hp; subst hp; exact hb
  | cons a t ih =>
    unfold joinTo
    split
    · exact ih _ (commonP_fine a b (hs a (by simp)) hb) (fun p hp => hs p (by simp [hp]))
    · intro p hp
      rcases List.mem_cons.1 hp with rfl | hp
      · exact hb
      · exact hs p hp
theorem joinTo_len (b : Pfx) (s : List Pfx) : (joinTo b s).length ≤ s.length + 1 := by
  induction s generalizing b with
  | nil => simp [joinTo]
  | cons a t ih =>
    unfold joinTo
    split
    · exact Nat.le_trans (ih _) (by simp)
    · simp
theorem coverStep_fine (s : List Pfx) (p : Pfx) (hp : fine p) (hs : ∀ q ∈ s, fine q) : ∀ q ∈ coverStep s p, fine q := by
  unfold coverStep
  split
  · intro q hq; simp at hq; subst hq; exact hp
  · split
    · exact hs
    · exact joinTo_fine p _ hp hs
theorem coverStep_len (s : List Pfx) (p : Pfx) : (coverStep s p).length ≤ s.length + 1 := by
  unfold coverStep
  split
  · simp
  · split
    · simp
    · exact joinTo_len p _
theorem coverFold_fine (l : List Pfx) (hl : ∀ p ∈ l, fine p) : ∀ s, (∀ q ∈ s, fine q) → (∀ q ∈ l.foldl coverStep s, fine q) ∧ (l.foldl coverStep s).length ≤ s.length + l.length := by
  induction l with
  | nil => intro s hs; exact ⟨hs, by simp⟩
  | cons p l ih =>
    intro s hs
    have := ih (fun q hq => hl q (by simp [hq])) (coverStep s p) (coverStep_fine s p (hl p (by simp)) hs)
    have h2 := coverStep_len s p
    exact ⟨this.1, by have := this.2; simp; omega⟩
theorem pfxT : RowT Try.prog 22 26 2 16 := by
  refine RowT.of (z := .agg #[.int .u32 0, .int .i64 0]) Try.underlying22 (by kernel_rfl) rfl (by omega)
theorem pcs_push (l : List Pfx) (p : Pfx) : pcs l ++ [.int .u32 p.a, .int .i64 p.b] = pcs (l ++ [p]) := by rw [pcs_append]; rfl

theorem owns_form {w : World} {base n k : Nat} {e : TypeId} {v : Value} {xs : List Value} (h : w.ownsRow base e k v n xs) : ∃ so sc, v = .slice so n sc := by
  rcases h.2 with ⟨rfl, rfl⟩ | ⟨g, cap, cur, rfl, _⟩
  · exact ⟨_, _, rfl⟩
  · exact ⟨_, _, rfl⟩
def lenV : Value → Nat
  | .slice _ n _ => n
  | _ => 0
theorem owns_pos {w : World} {base n k : Nat} {e : TypeId} {v : Value} {xs : List Value} (h : w.ownsRow base e k v n xs) (hn : 0 < n) : ∃ g cap, v = .slice (some ⟨g, 0, none⟩) n cap ∧ base ≤ g ∧ g < w.heap.size ∧ n ≤ cap ∧ (∀ j u, xs[j]? = some u → w.cell? ⟨g, j, none⟩ = some u) := by
  rcases h.2 with ⟨rfl, rfl⟩ | ⟨g, cap, cur, rfl, hb, hg, hnc, _⟩
  · exact absurd hn (by omega)
  · refine ⟨g, cap, rfl, hb, (Array.getElem?_eq_some_iff.1 hg).1, hnc, fun j u hj => ?_⟩
    have := h.cells (g := g) rfl j u hj
    rwa [Addr.add_mid, Nat.zero_add] at this
/-- A row cut at its end. -/
theorem owns_cut {w : World} {base n k g cap : Nat} {e : TypeId} {xs : List Value} (h : w.ownsRow base e k (.slice (some ⟨g, 0, none⟩) n cap) n xs) (m : Nat) (hm : m ≤ n) : w.ownsRow base e k (.slice (some ⟨g, 0, none⟩) m cap) m (xs.take (m * k)) := by
  obtain ⟨hl, ⟨hv, _⟩ | ⟨g', cap', cur, hv, hb, hg, hc, hM, hs, ht⟩⟩ := h
  · cases hv
  · cases hv
    have hle := Nat.mul_le_mul_right k hm
    refine ⟨by rw [List.length_take, hl]; omega, .inr ⟨g, cap, cur, rfl, hb, hg, by omega, hM, hs, ?_⟩⟩
    rw [← ht, List.take_take]
    congr 1
    omega
/-- The last element's cells, and the one's ahead of it. -/
theorem pcs_last (s : List Pfx) (q : Pfx) : (pcs (q :: s).reverse)[s.length * 2]? = some (.int .u32 q.a) ∧ (pcs (q :: s).reverse)[s.length * 2 + 1]? = some (.int .i64 q.b) := by
  have h := pcs_get (q :: s).reverse s.length (by simp)
  have e : (q :: s).reverse[s.length]'(by simp) = q := by simp
  rw [e] at h
  rw [Nat.mul_comm]
  exact h
theorem pcs_snd (s : List Pfx) (q r : Pfx) : (pcs (r :: q :: s).reverse)[s.length * 2]? = some (.int .u32 q.a) ∧ (pcs (r :: q :: s).reverse)[s.length * 2 + 1]? = some (.int .i64 q.b) := by
  have h := pcs_get (r :: q :: s).reverse s.length (by simp)
  have e : (r :: q :: s).reverse[s.length]'(by simp) = q := by simp
  rw [e] at h
  rw [Nat.mul_comm]
  exact h

theorem pcs_cut (s : List Pfx) (x y : Pfx) : (pcs (y :: x :: s).reverse).take (s.length * 2) = pcs s.reverse := by
  rw [List.reverse_cons, List.reverse_cons, List.append_assoc, pcs_append]
  exact List.take_left' (by rw [pcs_length]; simp)
theorem coverStep_no (q : Pfx) (t : List Pfx) (p : Pfx) (h : withinB p q = false) : joinTo p (q :: t) = coverStep (q :: t) p := by
  show _ = if withinB p q then q :: t else joinTo p (q :: t)
  rw [h]; rfl
theorem coverStep_yes (q : Pfx) (t : List Pfx) (p : Pfx) (h : withinB p q = true) : coverStep (q :: t) p = q :: t := by
  show (if withinB p q then q :: t else joinTo p (q :: t)) = _
  rw [h]; rfl
theorem owns_mono {w : World} {base base' n k : Nat} {e : TypeId} {v : Value} {xs : List Value} (h : w.ownsRow base e k v n xs) (hb : base' ≤ base) : w.ownsRow base' e k v n xs := by
  obtain ⟨hl, h | ⟨g, cap, cur, rfl, hg, rest⟩⟩ := h
  · exact ⟨hl, .inl h⟩
  · exact ⟨hl, .inr ⟨g, cap, cur, rfl, by omega, rest⟩⟩
theorem joinTo_yes (x y : Pfx) (s : List Pfx) (c : Pfx) (hc : commonP x y = c) (h1 : x.b = y.b) (h2 : c.b = x.b - 1) : joinTo y (x :: s) = joinTo c s := by
  rw [joinTo, if_pos ⟨h1, by rw [hc]; exact h2⟩, hc]
theorem joinTo_no (x y : Pfx) (s : List Pfx) (c : Pfx) (hc : commonP x y = c) (h : ¬ (x.b = y.b ∧ c.b = x.b - 1)) : joinTo y (x :: s) = y :: x :: s := by
  rw [joinTo, if_neg (by rw [hc]; exact h)]

/-- Prefixes handed back in memory of the callee's own. -/
def GotP (w : World) (l : List Pfx) (e : Ending) (w' : World) : Prop := ∃ v, e = .returned v ∧ w'.ownsRow w.heap.size 26 2 v l.length (pcs l) ∧ Below w.heap.size w w'

set_option maxHeartbeats 1600000 in
set_option maxRecDepth 100000 in
theorem cover_any (va : Value) (l : List Pfx) (w : World) (hl : RdP w va l) (hp : ∀ p ∈ l, p.ok) (hn : l.length ≤ 1000000) :
    Calls Try.prog 10 #[va] w (GotP w (coverT l)) := by
  obtain ⟨ao, ca, rfl, -, hca⟩ := hl
  go_enter Try.func10, Try.ntmps10
  go_wp2_with fail
  go_loopw [3, 16] (fun out i wr => ∃ k : Nat, i = .int .i64 k ∧ k ≤ l.length ∧ wr.ownsRow w.heap.size 26 2 out (goods (l.take k)).length (pcs (goods (l.take k))) ∧ Kp [] w wr) (fun _ i _ => l.length - (intOf i).toNat)
  case atStart => exact ⟨0, rfl, Nat.zero_le _, World.ownsRow_nil _ _ _ _, Kp.refl _ _⟩
  case round =>
    obtain ⟨k, rfl, hk, hown, hkp⟩ := hrel
    rcases Nat.lt_or_ge k l.length with hlt | hge
    · obtain ⟨b1, o1, rfl, h1⟩ := hca (by omega)
      have P1 := Rd.pair h1 k (by omega)
      have hgl : (goods (l.take k)).length ≤ k := Nat.le_trans (List.length_filter_le _ _) (by simp; omega)
      have hs1 : goods (l.take (k + 1)) = goods (l.take k) ++ (if chk l[k] = 0 then [l[k]] else []) := by
        unfold goods
        rw [List.take_succ_eq_append_getElem hlt, List.filter_append]
        congr 1
        by_cases h : chk l[k] = 0 <;> simp [h]
      have hlow : b1 < w.heap.size := block_lt_of_cell P1.1
      obtain ⟨x, hx⟩ : ∃ x, l[k] = x := ⟨_, rfl⟩
      have hC := fun W => check_any x W (hp x (by rw [← hx]; simp))
      rw [hx] at P1 hs1
      obtain ⟨a, b⟩ := x
      dsimp only at P1
      have c1 := kc hkp.below P1.1
      have c2 := kc hkp.below P1.2
      have z1 : b1 < wr.heap.size := Nat.lt_of_lt_of_le hlow hkp.size
      have HS := Lib.hid (And.intro hs1 hx)
      clear hs1 hx P1
      by_cases hc : chk ⟨a, b⟩ = 0
      · rw [hc] at hC
        have HC := Lib.hid hc
        clear hc
        go_wp2_with fail
        refine (hC _).mono ?_
        rintro e w3 ⟨rfl, hb3⟩
        have hk3 : Kp [] wr w3 := ((Kp.refl [] wr).alloc _).more hb3
        have hown3 := owns_kp hown hk3 (by simp)
        have hkp3 : Kp [] w w3 := hkp.trans hk3 (by simp)
        have hsz := hkp3.size
        have Y0 : Kn w3 wr.heap.size 0 (.int .u32 a) := (Kn.new rfl).keep hb3
        have Y1 : Kn w3 wr.heap.size 1 (.int .i64 b) := (Kn.new rfl).keep hb3
        have ⟨d0, e0⟩ := Y0
        have ⟨d1, e1⟩ := Y1
        have z3 := Y0.lt
        clear c1 c2 hb3 hk3 hown
        go_wp2_with (first | (at_builtin; refine push1 pfxT rfl _ _ rfl _ _ _ _ _ _ _ hown3 rfl rfl rfl (by simp [Value.oneCell']) (by omega) (by omega) hsz ?_; intro v4 w4 hown4 hk4 hn4; have hkp4 := hkp3.push hown3 hk4 (Nat.le_refl _)))
        go_roundw
        case rel =>
          have e5 := HS.out.1
          rw [if_pos HC.out] at e5
          exact ⟨k + 1, by go_num, by omega, by rw [e5]; simpa [pcs] using hown4, hkp4⟩
        case measure => simp [intOf]; omega
      · have hc2 : (chk ⟨a, b⟩ == 0) = false := by simpa using hc
        have HC := Lib.hid hc
        clear hc
        obtain ⟨n, hnn⟩ : ∃ n, chk ⟨a, b⟩ = n := ⟨_, rfl⟩
        rw [hnn] at hC hc2
        have hn0 : n ≠ 0 := by simpa using hc2
        clear hc2 hnn
        go_wp2_with fail
        refine (hC _).mono ?_
        rintro e w3 ⟨rfl, hb3⟩
        have hk3 : Kp [] wr w3 := ((Kp.refl [] wr).alloc _).more hb3
        have hown3 := owns_kp hown hk3 (by simp)
        have hkp3 : Kp [] w w3 := hkp.trans hk3 (by simp)
        have hsz := hkp3.size
        have Y0 : Kn w3 wr.heap.size 0 (.int .u32 a) := (Kn.new rfl).keep hb3
        have Y1 : Kn w3 wr.heap.size 1 (.int .i64 b) := (Kn.new rfl).keep hb3
        have ⟨d0, e0⟩ := Y0
        have ⟨d1, e1⟩ := Y1
        have z3 := Y0.lt
        clear c1 c2 hb3 hk3 hown
        go_wp2_with fail
        go_roundw
        case rel =>
          have e5 := HS.out.1
          rw [if_neg HC.out, List.append_nil] at e5
          exact ⟨k + 1, by go_num, by omega, by rw [e5]; exact hown3, hkp3⟩
        case measure => simp [intOf]; omega
    · have hkk : l.take k = l := List.take_of_length_le hge
      rw [hkk] at hown
      have hgl : (goods l).length ≤ 1000000 := Nat.le_trans (List.length_filter_le _ _) hn
      have hfs : ∀ p ∈ sortP (goods l), fine p := by
        intro p hp9
        have := (List.mergeSort_perm _ _).mem_iff.1 hp9
        simp only [goods, List.mem_filter] at this
        exact ⟨hp p this.1, (chk_eq p).1 (by simpa using this.2)⟩
      have hsl : (sortP (goods l)).length = (goods l).length := List.length_mergeSort _
      obtain ⟨so, sc, hu3⟩ := owns_form hown
      subst hu3
      go_wp2_with fail
      refine (sort_any _ w.heap.size (goods l) wr hown hgl).mono ?_
      rintro e w4 ⟨rfl, hown4, hk4⟩
      have hkp4 := hkp.push hown hk4 (Nat.le_refl _)
      clear hown hk4 hkp hkk
      have hrs := Rd.of_owns hown4
      obtain ⟨so2, sc2, e7, -, hcs⟩ := hrs
      injection e7 with e8 e9 e10
      subst e8 e10
      clear e9
      have hT : coverT l = ((sortP (goods l)).foldl coverStep []).reverse := rfl
      obtain ⟨S, hS⟩ : ∃ S, sortP (goods l) = S := ⟨_, rfl⟩
      rw [hS] at hfs hsl hT hcs
      rw [← hsl] at hcs hgl ⊢
      clear hown4
      have HT := Lib.hid hT
      clear hT hS hsl
      have hsz4 := hkp4.size
      go_wp2_with fail
      go_loopw [6, 32] (fun out i wr => ∃ k : Nat, i = .int .i64 k ∧ k ≤ S.length ∧ ∃ st, (S.take k).foldl coverStep [] = st ∧ wr.ownsRow w4.heap.size 26 2 out st.length (pcs st.reverse) ∧ Kp [] w4 wr) (fun _ i _ => S.length - (intOf i).toNat)
      case atStart => exact ⟨0, rfl, Nat.zero_le _, [], rfl, World.ownsRow_nil _ _ _ _, Kp.refl _ _⟩
      case round =>
        obtain ⟨i, rfl, hi, st, hst, howns, hkw⟩ := hrel
        rcases Nat.lt_or_ge i S.length with hlt2 | hge2
        · obtain ⟨b1, o1, rfl, h1⟩ := hcs (by omega)
          have P1 := Rd.pair h1 i (by omega)
          have hstep : (S.take (i + 1)).foldl coverStep [] = coverStep st S[i] := by
            rw [List.take_succ_eq_append_getElem hlt2, List.foldl_append, hst]; rfl
          have hff := coverFold_fine (S.take i) (fun p hp => hfs p (List.mem_of_mem_take hp)) [] (by simp)
          rw [hst] at hff
          have hlow : b1 < w4.heap.size := block_lt_of_cell P1.1
          obtain ⟨x, hx⟩ : ∃ x, S[i] = x := ⟨_, rfl⟩
          have hxf : fine x := hfs x (by rw [← hx]; simp)
          rw [hx] at P1 hstep
          have hsl : st.length ≤ 1000000 := by have := hff.2; simp at this; omega
          obtain ⟨a, b⟩ := x
          dsimp only at P1
          have c1 := kc hkw.below P1.1
          have c2 := kc hkw.below P1.2
          have z1 : b1 < wr.heap.size := Nat.lt_of_lt_of_le hlow hkw.size
          have HS := Lib.hid (And.intro hstep (And.intro hff hst))
          clear hstep hx P1 hff hst
          cases st with
          | nil =>
            obtain ⟨so3, sc3, hu6⟩ := owns_form howns
            subst hu6
            simp only [List.length_nil] at howns hsl ⊢
            have Bw := (Below.refl wr.heap.size wr).alloc (Nat.le_refl _) (.cells #[.int .u32 a, .int .i64 b] 26)
            have Y0 : Kn (wr.alloc (.cells #[.int .u32 a, .int .i64 b] 26)) wr.heap.size 0 (.int .u32 a) := Kn.new rfl
            have Y1 : Kn (wr.alloc (.cells #[.int .u32 a, .int .i64 b] 26)) wr.heap.size 1 (.int .i64 b) := Kn.new rfl
            have q1 := cell_regrown Y0.1
            have q2 := cell_regrown Y1.1
            go_wp2_with fail
            refine wp_region_quiet_below (by kernel_rfl) (by kernel_rfl) ?_
            repeat (first | go_big_quiet_step ((fail)) | quiet_step ((fail)))
            refine wpQuiet_nil ?_
            intro wq hq'
            have hq := below_of_regrown hq'
            clear hq'
            replace Y0 := Y0.keep hq
            replace Y1 := Y1.keep hq
            have hkq : Kp [] wr wq := (Kp.of_below Bw).more hq
            have howns2 := owns_kp howns hkq (by simp)
            have hkw2 : Kp [] w4 wq := hkw.trans hkq (by simp)
            have hsz2 := hkw2.size
            have z2 := Y0.lt
            have ⟨d0, e0⟩ := Y0
            have ⟨d1, e1⟩ := Y1
            clear hq Bw howns hkw hkq c1 c2 q1 q2
            go_wp2_with (first | (at_builtin; refine push1 pfxT rfl _ _ rfl _ _ _ _ _ _ _ howns2 rfl rfl rfl (by simp [Value.oneCell']) (by omega) (by omega) hsz2 ?_; intro v5 w5 hown5 hk5 hn5; have hkp5 := hkw2.push howns2 hk5 (Nat.le_refl _)))
            go_loopw [6] (fun out wz => ∃ y s, wz.ownsRow w4.heap.size 26 2 out (s.length + 1) (pcs (y :: s).reverse) ∧ joinTo y s = coverStep [] ⟨a, b⟩ ∧ (∀ p ∈ y :: s, fine p) ∧ s.length ≤ ([] : List Pfx).length ∧ Kp [] w4 wz) (fun out _ => lenV out)
            case atStart =>
              refine ⟨⟨a, b⟩, [], ?_, ?_, ?_, Nat.le_refl _, hkp5⟩
              · simpa [pcs] using hown5
              · rfl
              · intro p hp9
                rcases List.mem_cons.1 hp9 with rfl | hp9
                · exact hxf
                · exact HS.out.2.1.1 p hp9
            case round =>
              obtain ⟨y, s, ho, hj, hf, hlz, hkz⟩ := hrel
              obtain ⟨g2, cap2, hu62, hg12, hg22, hnc2, hcell2⟩ := owns_pos ho (by omega)
              subst hu62
              cases s with
              | nil =>
                simp only [List.length_nil] at ho
                go_wp2_with fail
                refine ⟨⟨i + 1, by go_num, by omega, [y], ?_, ho, hkz⟩, ?_⟩
                · rw [HS.out.1, ← hj]; rfl
                · simp [intOf]; omega
              | cons x s => exact absurd hlz (by simp)
          | cons q t =>
            obtain ⟨g, cap, hu6, hg1, hg2, hnc, hcell⟩ := owns_pos howns (by simp)
            subst hu6
            have hq1 := pcs_last t q
            have g1 := kc ((Below.refl wr.heap.size wr).alloc (Nat.le_refl _) (.cells #[.int .u32 a, .int .i64 b] 26)) (hcell _ _ hq1.1)
            have g2 := kc ((Below.refl wr.heap.size wr).alloc (Nat.le_refl _) (.cells #[.int .u32 a, .int .i64 b] 26)) (hcell _ _ hq1.2)
            have q3 := cell_regrown g1
            have q4 := cell_regrown g2
            have hqf : fine q := HS.out.2.1.1 q (by simp)
            have hW := fun W => within_any ⟨a, b⟩ q W hxf.1 hqf.1
            simp only [List.length_cons] at howns hsl ⊢
            obtain ⟨qa, qb⟩ := q
            dsimp only at g1 g2 q3 q4
            clear hq1 hcell g1 g2
            have Bw := (Below.refl wr.heap.size wr).alloc (Nat.le_refl _) (.cells #[.int .u32 a, .int .i64 b] 26)
            have Y0 : Kn (wr.alloc (.cells #[.int .u32 a, .int .i64 b] 26)) wr.heap.size 0 (.int .u32 a) := Kn.new rfl
            have Y1 : Kn (wr.alloc (.cells #[.int .u32 a, .int .i64 b] 26)) wr.heap.size 1 (.int .i64 b) := Kn.new rfl
            have q1 := cell_regrown Y0.1
            have q2 := cell_regrown Y1.1
            obtain ⟨d, hd⟩ : ∃ d, withinB ⟨a, b⟩ ⟨qa, qb⟩ = d := ⟨_, rfl⟩
            rw [hd] at hW
            have HD := Lib.hid hd
            clear hd
            go_wp2_with fail
            refine wp_region_quiet_below (by kernel_rfl) (by kernel_rfl) ?_
            repeat (first | go_big_quiet_step (((go_at_call 47; exact Ret.q0 hW))) | quiet_step (((go_at_call 47; exact Ret.q0 hW))))
            refine wpQuiet_nil ?_
            intro wq hq'
            have hq := below_of_regrown hq'
            clear hq'
            replace Y0 := Y0.keep hq
            replace Y1 := Y1.keep hq
            have hkq : Kp [] wr wq := (Kp.of_below Bw).more hq
            have howns2 := owns_kp howns hkq (by simp)
            have hkw2 : Kp [] w4 wq := hkw.trans hkq (by simp)
            have hsz2 := hkw2.size
            have z2 := Y0.lt
            have ⟨d0, e0⟩ := Y0
            have ⟨d1, e1⟩ := Y1
            clear hq Bw howns hkw hkq c1 c2 q1 q2
            clear q3 q4 hW
            rcases d with _ | _
            · go_wp2_with (first | (at_builtin; refine push1 pfxT rfl _ _ rfl _ _ _ _ _ _ _ howns2 rfl rfl rfl (by simp [Value.oneCell']) (by omega) (by omega) hsz2 ?_; intro v5 w5 hown5 hk5 hn5; have hkp5 := hkw2.push howns2 hk5 (Nat.le_refl _)))
              go_loopw [6] (fun out wz => ∃ y s, wz.ownsRow w4.heap.size 26 2 out (s.length + 1) (pcs (y :: s).reverse) ∧ joinTo y s = coverStep (⟨qa, qb⟩ :: t) ⟨a, b⟩ ∧ (∀ p ∈ y :: s, fine p) ∧ s.length ≤ (⟨qa, qb⟩ :: t : List Pfx).length ∧ Kp [] w4 wz) (fun out _ => lenV out)
              case atStart =>
                refine ⟨⟨a, b⟩, ⟨qa, qb⟩ :: t, ?_, ?_, ?_, Nat.le_refl _, hkp5⟩
                · simpa [pcs] using hown5
                · exact coverStep_no _ _ _ HD.out
                · intro p hp9
                  rcases List.mem_cons.1 hp9 with rfl | hp9
                  · exact hxf
                  · exact HS.out.2.1.1 p hp9
              case round =>
                obtain ⟨y, s, ho, hj, hf, hlz, hkz⟩ := hrel
                obtain ⟨g2, cap2, hu62, hg12, hg22, hnc2, hcell2⟩ := owns_pos ho (by omega)
                subst hu62
                cases s with
                | nil =>
                  simp only [List.length_nil] at ho
                  go_wp2_with fail
                  refine ⟨⟨i + 1, by go_num, by omega, [y], ?_, ho, hkz⟩, ?_⟩
                  · rw [HS.out.1, ← hj]; rfl
                  · simp [intOf]; omega
                | cons x s =>
                  have hm1 := pcs_last (x :: s) y
                  have hm2 := pcs_snd s x y
                  have m1 := hcell2 _ _ hm1.1
                  have m2 := hcell2 _ _ hm1.2
                  have m3 := hcell2 _ _ hm2.1
                  have m4 := hcell2 _ _ hm2.2
                  have hfx := hf x (by simp)
                  have hfy := hf y (by simp)
                  have hC := fun W => common_any x y W hfx.1 hfy.1 hfx.2 hfy.2
                  have hcmf : fine (commonP x y) := commonP_fine x y hfx hfy
                  simp only [List.length_cons] at hlz
                  have hls : s.length ≤ 1000000 := by omega
                  simp only [List.length_cons] at m1 m2 m3 m4 ho hnc2 ⊢
                  obtain ⟨xa, xb⟩ := x
                  obtain ⟨ya, yb⟩ := y
                  obtain ⟨N, hN⟩ : ∃ N, s.length + 1 + 1 = N := ⟨_, rfl⟩
                  have i1 : N - 2 = s.length := by omega
                  have i2 : N - 1 = s.length + 1 := by omega
                  rw [← i2] at m1 m2
                  rw [← i1] at m3 m4
                  rw [hN] at ho hnc2 ⊢
                  have k1 : (N : Int) - 2 ≤ (cap2 : Int) := by omega
                  have k2 : (N : Int) ≤ (cap2 : Int) := by omega
                  have k3 : N - 2 ≤ cap2 := by omega
                  have j1 : (0 : Int) ≤ (N : Int) - 2 := by omega
                  have j2 : (N : Int) - 2 < (N : Int) := by omega
                  have j3 : (0 : Int) ≤ (N : Int) - 1 := by omega
                  have j4 : (N : Int) - 1 < (N : Int) := by omega
                  have j5 : N ≤ 1000002 := by omega
                  have j6 : (2 : Int) ≤ (N : Int) := by omega
                  have y1 : IntKind.i64.wrap ((N : Int) - 2) = (N : Int) - 2 := by simp [IntKind.wrap, IntKind.bits, IntKind.signed]; omega
                  have y2 : IntKind.i64.wrap ((N : Int) - 1) = (N : Int) - 1 := by simp [IntKind.wrap, IntKind.bits, IntKind.signed]; omega
                  have y3 : ((N : Int) - 2).toNat = N - 2 := by omega
                  have y4 : ((N : Int) - 1).toNat = N - 1 := by omega
                  have j7 : 2 ≤ N := by omega
                  have j8 : 0 < N := by omega
                  have j9 : (1 : Int) ≤ (N : Int) := by omega
                  have HN := Lib.hid (And.intro hN (And.intro i1 i2))
                  have HJ := Lib.hid hj
                  obtain ⟨⟨ca2, cb2⟩, hcm⟩ : ∃ cm, commonP ⟨xa, xb⟩ ⟨ya, yb⟩ = cm := ⟨_, rfl⟩
                  rw [hcm] at hC hcmf
                  have HCM := Lib.hid hcm
                  have b1x := hfx.2.1
                  have b2x := hfx.2.2.1
                  have b1c := hcmf.2.1
                  have b2c := hcmf.2.2.1
                  have HF := Lib.hid (And.intro hf (And.intro hfx (And.intro hfy hcmf)))
                  dsimp only at b1x b2x b1c b2c
                  clear hj hcm hf hfx hfy hcmf hm1 hm2 hcell2
                  clear hN i1 i2 hls
                  dsimp only at m1 m2 m3 m4
                  go_wp2_with fail
                  go_region_held3 (fun w' => w'.cell? ⟨g2, (N - 1) * 2, none⟩ = some (.int .u32 ya) ∧ w'.cell? ⟨g2, (N - 1) * 2 + 1, none⟩ = some (.int .i64 yb) ∧ w'.cell? ⟨g2, (N - 2) * 2, none⟩ = some (.int .u32 xa) ∧ w'.cell? ⟨g2, (N - 2) * 2 + 1, none⟩ = some (.int .i64 xb))
                    (go_keep) (fail)
                  all_goals (
                    go_wp2_with fail
                    refine (hC _).mono ?_
                    rintro e w6 ⟨rfl, hb6⟩
                    have hk6 : Kp [] wr w6 := by
                      refine Kp.more ?_ hb6
                      (repeat (first | exact Kp.refl _ _ | refine Kp.drew ?_ | refine Kp.setCell ?_ _ _ (by right; first | (dsimp only; omega) | (simp; done) | (simp; omega)) | refine Kp.alloc ?_ _))
                    have ho6 := owns_kp ho hk6 (by simp)
                    have hkz6 := hkz.trans hk6 (by simp)
                    first
                      | (have G0 := (kn2 wr (.int .u32 xa) (.int .i64 xb) (.int .u32 ya) (.int .i64 yb) 26).2.1.keep hb6; have G1 := (kn2 wr (.int .u32 xa) (.int .i64 xb) (.int .u32 ya) (.int .i64 yb) 26).2.2.2.keep hb6; have ⟨p0, f0⟩ := G0; have ⟨p1, f1⟩ := G1; have l0 := G0.lt; have l1 := G1.lt; clear G0 G1)
                      | (have G0 := (kn2 wr (.int .u32 ya) (.int .i64 yb) (.int .u32 xa) (.int .i64 xb) 26).2.1.keep hb6; have G1 := (kn2 wr (.int .u32 ya) (.int .i64 yb) (.int .u32 xa) (.int .i64 xb) 26).2.2.2.keep hb6; have ⟨p0, f0⟩ := G0; have ⟨p1, f1⟩ := G1; have l0 := G0.lt; have l1 := G1.lt; clear G0 G1)
                    clear m1 m2 m3 m4 hb6 hk6
                    have hz6 := hkz6.size
                    by_cases e1 : xb = yb
                    · subst e1
                      by_cases e2 : cb2 = xb - 1
                      · subst e2
                        have hcut := (owns_cut ho6 (N - 2) (by omega)).alloc (.cells #[.int .u32 ca2, .int .i64 (xb - 1)] 26)
                        have ⟨r0, fr0⟩ : Kn (w6.alloc (.cells #[.int .u32 ca2, .int .i64 (xb - 1)] 26)) w6.heap.size 0 (.int .u32 ca2) := Kn.new rfl
                        have ⟨r1, fr1⟩ : Kn (w6.alloc (.cells #[.int .u32 ca2, .int .i64 (xb - 1)] 26)) w6.heap.size 1 (.int .i64 (xb - 1)) := Kn.new rfl
                        have gl := ho6.lt g2 rfl
                        have hw6 : w4.heap.size ≤ (w6.alloc (.cells #[.int .u32 ca2, .int .i64 (xb - 1)] 26)).heap.size := by simp; omega
                        go_wp2_with fail
                        go_region_held3 (fun w' => w'.cell? ⟨w6.heap.size, 0, none⟩ = some (.int .u32 ca2) ∧ w'.cell? ⟨w6.heap.size, 1, none⟩ = some (.int .i64 (xb - 1)))
                          (first | go_keep | (exact ⟨hk7.cell r0 (by simp [Value.ownBlock]; omega), hk7.cell r1 (by simp [Value.ownBlock]; omega)⟩))
                          ((refine push1s pfxT (by rfl) _ _ (by rfl) _ _ _ _ _ _ _ hcut (by rfl) (w6.heap.size + 1) (by rfl) (by simp) (by rfl) (by simp [Value.oneCell']) (by omega) (by omega) hw6 ?_; intro v7 w7 hown7 hk7 hn7; have hkz7 := (hkz6.alloc _).push hcut hk7 (Nat.le_refl _)))
                        obtain ⟨so7, sc7, hv7⟩ := owns_form hown7
                        subst hv7
                        go_wp2_with fail
                        go_roundw
                        case rel =>
                          refine ⟨⟨ca2, xb - 1⟩, s, ?_, ?_, ?_, by omega, hkz7⟩
                          · have h9 := hown7
                            have e6 : N - 2 = s.length := HN.out.2.1
                            have e7 : (pcs (⟨ca2, xb - 1⟩ :: s).reverse) = (pcs (⟨ya, xb⟩ :: ⟨xa, xb⟩ :: s).reverse).take ((N - 2) * 2) ++ #[.int .u32 ca2, .int .i64 (xb - 1)].toList := by
                              rw [e6, pcs_cut]; simp [pcs]
                            rw [e7]
                            have e8 : s.length + 1 = N - 2 + 1 := by omega
                            rw [e8]
                            exact h9
                          · rw [← HJ.out]
                            exact (joinTo_yes _ _ _ _ HCM.out rfl rfl).symm
                          · intro p hp9
                            obtain ⟨hf, -, -, hcmf⟩ := HF.out
                            rcases List.mem_cons.1 hp9 with rfl | hp9
                            · exact hcmf
                            · exact hf p (by simp [hp9])
                        case measure => simp [lenV]; have := HN.out.1; omega
                      · have e3 : (cb2 != xb - 1) = true := by simpa using e2
                        go_wp2_with fail
                        have hN := HN.out.1
                        subst hN
                        refine ⟨⟨i + 1, by go_num, by omega, ⟨ya, xb⟩ :: ⟨xa, xb⟩ :: s, ?_, ho6.alloc _, hkz6.alloc _⟩, ?_⟩
                        · rw [HS.out.1, ← HJ.out]
                          exact joinTo_no _ _ _ _ HCM.out (fun h => e2 h.2)
                        · simp [intOf]; omega
                    · have e3 : (xb != yb) = true := by simpa using e1
                      go_wp2_with fail
                      have hN := HN.out.1
                      subst hN
                      refine ⟨⟨i + 1, by go_num, by omega, ⟨ya, yb⟩ :: ⟨xa, xb⟩ :: s, ?_, ho6.alloc _, hkz6.alloc _⟩, ?_⟩
                      · rw [HS.out.1, ← HJ.out]
                        exact joinTo_no _ _ _ _ HCM.out (fun h => e1 h.1)
                      · simp [intOf]; omega)
            · go_wp2_with fail
              refine ⟨⟨i + 1, by go_num, by omega, ⟨qa, qb⟩ :: t, ?_, howns2, hkw2⟩, ?_⟩
              · rw [HS.out.1]; exact coverStep_yes _ _ _ HD.out
              · simp [intOf]; omega
        · have hii : S.take i = S := List.take_of_length_le hge2
          rw [hii] at hst
          obtain ⟨so9, sc9, hu9⟩ := owns_form howns
          subst hu9
          go_wp2_with fail
          go_ret
          have e9 := HT.out
          rw [hst] at e9
          refine ⟨_, rfl, ?_, (hkp4.trans hkw (by simp)).below⟩
          rw [e9, List.length_reverse]
          exact owns_mono howns hsz4
end Go.Proofs.Ytplgpbadpdmeeaa

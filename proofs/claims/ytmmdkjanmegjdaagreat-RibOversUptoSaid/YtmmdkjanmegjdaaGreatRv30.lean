/-
 Texts of a proof, one behind the other (part 31).
-/
import Derived.Test.YtmmdkjanmegjdaaGreatRv2
import Derived.Test.YtmmdkjanmegjdaaGreatRv4
import Derived.Test.YtmmdkjanmegjdaaGreatRv28
import Derived.Test.YtmmdkjanmegjdaaGreatRv29
set_option maxRecDepth 100000
set_option linter.unusedSimpArgs false
set_option linter.unusedVariables false
namespace Go.Proofs.YtmmdkjanmegjdaaGreat
structure TkR where
 t : Tkn
 v : Value
 w : Value
instance : Inhabited TkR := ⟨⟨(0, zeroS), .slice none 0 0, .slice none 0 0⟩⟩
namespace Ab
open Go.RowKit Go.Lib
def tkrD (x : TkR) : List Dat := iD (x.t.1 : Int) :: sbjH x.t.2 x.v x.w
theorem zb5 (x : TkR) : (tkrD x).length = 9 := rfl
abbrev tkrB (l : List TkR) : ABlk := .row 52 9 l.length (l.flatMap tkrD)
theorem zju (l : List TkR) : (l.flatMap tkrD).all plainD = true := by
 rw [List.all_eq_true]
 intro c hc
 obtain ⟨x, _, hx⟩ := List.mem_flatMap.1 hc
 simp [tkrD, sbjH] at hx
 rcases hx with rfl | rfl | rfl | rfl | rfl | rfl | rfl | rfl | rfl <;> rfl
def famT : List TkR → Nat → Heap
 | [], _ => []
 | y :: r, b => (b, uX y.v y.t.2.path) :: (b + 1, uX y.w y.t.2.com) :: famT r (b + 2)
theorem zbV : ∀ (R : List TkR) (b i : Nat) (hi : i < R.length), look (famT R b) (b + 2 * i) = some (uX R[i].v R[i].t.2.path) ∧ look (famT R b) (b + 2 * i + 1) = some (uX R[i].w R[i].t.2.com)
 | [], b, i, hi => by simp at hi
 | y :: r, b, 0, hi => ⟨ze _ _ _, by rw [famT, zc _ _ (by omega)]; exact ze _ _ _⟩
 | y :: r, b, i + 1, hi => by
  have h := zbV r (b + 2) i (by simpa using hi)
  rw [show b + 2 * (i + 1) = b + 2 + 2 * i by omega, famT, zc _ _ (by omega), zc _ _ (by omega), zc _ _ (by omega), zc _ _ (by omega)]
  exact h
theorem zcb : ∀ (R : List TkR) (b j : Nat) (bl : ABlk), look (famT R b) j = some bl → ∃ i, ∃ hi : i < R.length, (j = b + 2 * i ∧ bl = uX R[i].v R[i].t.2.path) ∨ (j = b + 2 * i + 1 ∧ bl = uX R[i].w R[i].t.2.com)
 | [], b, j, bl, h => by cases h
 | y :: r, b, j, bl, h => by
  by_cases hj : b = j
  ·subst hj
   rw [famT, ze] at h
   cases h
   exact ⟨0, by simp, .inl ⟨rfl, rfl⟩⟩
  ·rw [famT, zc _ _ hj] at h
   by_cases hk : b + 1 = j
   ·subst hk
    rw [ze] at h
    cases h
    exact ⟨0, by simp, .inr ⟨rfl, rfl⟩⟩
   ·rw [zc _ _ hk] at h
    obtain ⟨i, hi, h1⟩ := zcb r (b + 2) j bl h
    refine ⟨i + 1, by simpa using hi, ?_⟩
    rcases h1 with ⟨h1, h2⟩ | ⟨h1, h2⟩
    ·exact .inl ⟨by omega, h2⟩
    ·exact .inr ⟨by omega, h2⟩
theorem zad {R : List TkR} {b j : Nat} {bl : ABlk} (h : look (famT R b) j = some bl) : b ≤ j ∧ j < b + 2 * R.length ∧ isX bl = true := by
 obtain ⟨i, hi, ⟨rfl, rfl⟩ | ⟨rfl, rfl⟩⟩ := zcb R b j bl h
 ·exact ⟨by omega, by omega, zfE _ _⟩
 ·exact ⟨by omega, by omega, zfE _ _⟩
theorem ziS : ∀ (R : List TkR) (b : Nat), ((famT R b).map (·.1)).Nodup
 | [], _ => .nil
 | y :: r, b => by
  rw [famT, List.map_cons, List.map_cons, List.nodup_cons, List.nodup_cons]
  have hno : ∀ j, j < b + 2 → j ∉ (famT r (b + 2)).map (·.1) := fun j hj h => by
   obtain ⟨bl, hb⟩ := zbU h
   have := (zad hb).1
   omega
  refine ⟨fun h => ?_, hno _ (by omega), ziS r (b + 2)⟩
  rcases List.mem_cons.1 h with h | h
  ·dsimp only at h; omega
  ·exact hno _ (by dsimp only; omega) h
theorem zX {R : List TkR} {h : Heap} (hn : R.length ≤ 150) (hh : ∀ j b, 300 ≤ j → j < 600 → isX b = true → look (famT R 300) j = some b → look h j = some b) : ∀ id b, look (famT R 300) id = some b → look h id = some b := fun id b hb => by
 obtain ⟨h1, h2, h3⟩ := zad hb
 exact hh id b h1 (by omega) h3 hb
section
variable {h : Heap} {j k : Nat} {b c : ABlk}
theorem zaq (hk : k < 300 ∨ 600 ≤ k) (h1 : 300 ≤ j) (h2 : j < 600) (hl : look h j = some b) : look ((k, c) :: h) j = some b := by rw [zc _ _ (by omega)]; exact hl
theorem zai (hk : k < 300 ∨ 600 ≤ k) (h1 : 300 ≤ j) (h2 : j < 600) (hx : isX b = true) (hl : look h j = some b) : look (killH k h) j = some b := by
 rw [zcj, if_neg (by omega), hl]; show some (killB k b) = _; rw [zlm hx]
theorem zY {ks : List Nat} (hk : ∀ k ∈ ks, k < 300 ∨ 600 ≤ k) (h1 : 300 ≤ j) (h2 : j < 600) (hx : isX b = true) (hl : look h j = some b) : look (killHs ks h) j = some b := by
 rw [zbv, if_neg (fun hc => by have := hk j (List.contains_iff_mem.1 hc); omega), hl]; show some (killBs ks b) = _; rw [zjN hx]
theorem zaU {d : Dat} (hk : k < 300 ∨ 600 ≤ k) (h1 : 300 ≤ j) (h2 : j < 600) (hx : isX b = true) (hl : look h j = some b) : look (frH k d h) j = some b := by
 rw [zeU, if_neg (by omega), hl]
 show some (frB k d b) = _
 cases b <;> first | rfl | cases hx
theorem zaT {ds : List Dat} (hk : k < 300 ∨ 600 ≤ k) (h1 : 300 ≤ j) (h2 : j < 600) (hx : isX b = true) (hl : look h j = some b) : look (fzH k ds h) j = some b := by
 rw [zeT, if_neg (by omega), hl]
 show some (fzB k ds b) = _
 cases b <;> first | rfl | cases hx
end
theorem zjS (R : List TkR) (b : Nat) (y : TkR) (j : Nat) (bl : ABlk) (h : look (famT (R ++ [y]) b) j = some bl) : (look (famT R b) j = some bl ∧ j < b + 2 * R.length) ∨ (j = b + 2 * R.length ∧ bl = uX y.v y.t.2.path) ∨ (j = b + 2 * R.length + 1 ∧ bl = uX y.w y.t.2.com) := by
 obtain ⟨i, hi, h1⟩ := zcb _ _ _ _ h
 by_cases hl : i < R.length
 ·have h2 := zbV R b i hl
  rw [List.getElem_append_left hl] at h1
  rcases h1 with ⟨rfl, rfl⟩ | ⟨rfl, rfl⟩
  ·exact .inl ⟨h2.1, by omega⟩
  ·exact .inl ⟨h2.2, by omega⟩
 ·rw [List.length_append, List.length_singleton] at hi
  obtain rfl : i = R.length := by omega
  have e : (R ++ [y])[R.length] = y := by simp
  rw [e] at h1
  rcases h1 with ⟨h1, h2⟩ | ⟨h1, h2⟩
  ·exact .inr (.inl ⟨h1, h2⟩)
  ·exact .inr (.inr ⟨h1, h2⟩)
theorem znI {nt : Nat} {e e1 : Env} {h h1 : Heap} {Y : List TkR} {y : TkR} {s1 s2 : Nat} (hs1 : s1 < 300) (hs2 : s2 < 300) (hne : s1 ≠ s2) (hY : Y.length < 150) (he : Sub e1 e) (hh : Sub h1 h) (h6 : look h s1 = some (uX y.v y.t.2.path)) (h7 : look h s2 = some (uX y.w y.t.2.com)) (hG : ∀ id b, look (famT Y 300) id = some b → look h id = some b)
  (hk1 : look h1 s1 = none) (hk2 : look h1 s2 = none) (hkeys : ∀ id b, look h1 id = some b → id < 300 ∨ 600 ≤ id) (hev : ∀ t c, look e1 t = some c → ∀ j, 300 ≤ j → j < 600 → c.has j = false) (hbv : ∀ id b, look h1 id = some b → ∀ j, 300 ≤ j → j < 600 → blkHas j b = false) : AWk nt e h e1 (h1 ++ famT (Y ++ [y]) 300) := by
 have dom : ∀ j, (look (famT (Y ++ [y]) 300) j).isSome = true → 300 ≤ j ∧ j < 600 := fun j hj => by
  obtain ⟨b, hb⟩ := Option.isSome_iff_exists.1 hj
  obtain ⟨h1, h2, _⟩ := zad hb
  rw [List.length_append, List.length_singleton] at h2
  exact ⟨h1, by omega⟩
 have no : ∀ j, 300 ≤ j → j < 600 → look h1 j = none := fun j g1 g2 => by
  cases hl : look h1 j with
  | none => rfl
  | some b => have := hkeys j b hl; omega
 refine ziv (fun j => if j = 300 + 2 * Y.length then some s1 else if j = 300 + 2 * Y.length + 1 then some s2 else some j) he hh (fun j b hb => ?_) (fun j j' p hj hj' hs hs' => ?_) (fun j hj => ?_) (fun j p hj hp => ?_) (fun t c ht j hj => hev t c ht j (dom j hj).1 (dom j hj).2) (fun id b hb j hj => hbv id b hb j (dom j hj).1 (dom j hj).2)
 ·have hx := (zad hb).2.2
  have hd := dom j (by rw [hb]; rfl)
  rcases zjS _ _ _ _ _ hb with ⟨h1, h2⟩ | ⟨h1, h2⟩ | ⟨h1, h2⟩
  ·exact ⟨j, by rw [if_neg (by omega), if_neg (by omega)], hG j b h1, hx, by omega⟩
  ·exact ⟨s1, by rw [if_pos h1], by rw [h6, h2], hx, by omega⟩
  ·exact ⟨s2, by rw [if_neg (by omega), if_pos h1], by rw [h7, h2], hx, by omega⟩
 ·have d1 := dom j hs
  have d2 := dom j' hs'
  have e1 : ∀ {u}, (if u = 300 + 2 * Y.length then some s1 else if u = 300 + 2 * Y.length + 1 then some s2 else some u) = some p → (u = 300 + 2 * Y.length ∧ p = s1) ∨ (u = 300 + 2 * Y.length + 1 ∧ p = s2) ∨ p = u := fun {u} hu => by
   split at hu
   ·exact .inl ⟨by assumption, (Option.some.inj hu).symm⟩
   ·split at hu
    ·exact .inr (.inl ⟨by assumption, (Option.some.inj hu).symm⟩)
    ·exact .inr (.inr (Option.some.inj hu).symm)
  rcases e1 hj with ⟨h1, h2⟩ | ⟨h1, h2⟩ | h1 <;> rcases e1 hj' with ⟨h3, h4⟩ | ⟨h3, h4⟩ | h3 <;> omega
 ·exact no j (dom j hj).1 (dom j hj).2
 ·have d1 := dom j hj
  split at hp
  ·cases hp; exact hk1
  ·split at hp
   ·cases hp; exact hk2
   ·cases hp; exact no j d1.1 d1.2
def cmpR (x y : TkR) : Int := cmpT x.t y.t
theorem zfG : Good cmpR := ⟨fun _ _ => zbk.anti _ _, fun _ _ _ => zbk.trans _ _ _⟩
attribute [local irreducible] AWp AOps AQ AYield AEff ACall AWk AAny AAt AThen AIn APost NoPanic
theorem zkw (l : List TkR) (hn : l.length ≤ 2147483648) (hd : ∀ (i j : Nat) (hi : i < l.length) (hj : j < l.length), cmpR l[i] l[j] = 0 → i = j) :
  ACall Tryz.prog 20 [.row 1000, .fn 21 []] [(1000, tkrB l)] (fun c h => c = .tup [] ∧ h = [(1000, tkrB (srt cmpR l))]) := by
 have := sortA (β := TkR) Tryz.sortTaken (f := 20) (el := 52) (k := 9) rfl (by kernel_rfl) (fun W => Tryz.isAgg52 W) (fun W => Tryz.sizeOf52 W) (encD := tkrD) zb5 zfG (eT := fun x => tknT x.t) (g := 21) (fun x y => zmY x.t y.t)
  (fun x vs hl hr W => by
   refine .agg _ _ (by simpa [tknT] using hl) fun i c u h1 h2 => ?_
   have h2 : vs[i]? = some u := by simpa using h2
   match i, h1 with
   | 0, h1 => cases h1; exact .top _
   | 1, h1 =>
    cases h1
    obtain ⟨w, Fr, h3⟩ := hr 1 (uD x.t.2.p.a) u rfl h2
    cases h3 with
    | sc _ h => exact .d _ _ (.sc _ h)
   | 2, h1 =>
    cases h1
    obtain ⟨w, Fr, h3⟩ := hr 2 (iD x.t.2.p.b) u rfl h2
    cases h3 with
    | sc _ h => exact .d _ _ (.sc _ h)
   | 3, h1 => cases h1; exact .top _
   | 4, h1 => cases h1; exact .top _
   | 5, h1 => cases h1; exact .top _
   | 6, h1 => cases h1; exact .top _
   | 7, h1 => cases h1; exact .top _
   | 8, h1 => cases h1; exact .top _
   | i + 9, h1 => cases h1)
  [.int .i64 0, .int .u32 0, .int .i64 0, .int .i64 0, .int .i64 0, .int .i64 0, .slice none 0 0, .slice none 0 0, .int .u32 0] rfl (by decide) (fun W => by
   refine .agg _ _ rfl fun i c u h1 h2 => ?_
   match i, h1, h2 with
   | 0, h1, h2 => cases h1; exact .top _
   | 1, h1, h2 => cases h1; cases h2; exact zH rfl
   | 2, h1, h2 => cases h1; cases h2; exact zH rfl
   | 3, h1, h2 => cases h1; exact .top _
   | 4, h1, h2 => cases h1; exact .top _
   | 5, h1, h2 => cases h1; exact .top _
   | 6, h1, h2 => cases h1; exact .top _
   | 7, h1, h2 => cases h1; exact .top _
   | 8, h1, h2 => cases h1; exact .top _
   | i + 9, h1, h2 => cases h1) (fun w => (sortNilT _ w).mono fun e w' h => ⟨h.1, h.2.symm⟩) l hn hd
 unfold tkrB
 rw [zbC]
 exact this
theorem zil {L : List TkR} (h : (L.map (·.t)).Pairwise fun x y => x.2.p ≠ y.2.p) (i j : Nat) (hi : i < L.length) (hj : j < L.length) (hc : cmpR L[i] L[j] = 0) : i = j :=
 zj5 h i j (by rwa [List.length_map]) (by rwa [List.length_map]) (by rw [List.getElem_map, List.getElem_map]; exact hc)
theorem zkv {L : List TkR} (h : (L.map (·.t)).Pairwise fun x y => x.2.p ≠ y.2.p) : (srt cmpR L).map (·.t) = srt cmpT (L.map (·.t)) := by
 refine zaY zbk ?_ (zcy h) fun x => ?_
 ·have h1 := zdi zfG L
  have h2 : ((srt cmpR L).map (·.t)).Pairwise fun x y => x.2.p ≠ y.2.p := ((List.mergeSort_perm _ _).map _).symm.pairwise h fun {a b} hne => fun e => hne e.symm
  unfold Rising
  rw [List.pairwise_map] at h2 ⊢
  exact h1.and h2 |>.imp fun {x y} ⟨a, b⟩ => by
   rcases Int.lt_or_eq_of_le a with h | h
   ·exact h
   ·exact absurd (zbK h) b
 ·rw [zcg, List.mem_map, List.mem_map]
  constructor <;> rintro ⟨y, h1, rfl⟩
  ·exact ⟨y, (zcg _ _).1 h1, rfl⟩
  ·exact ⟨y, (zcg _ _).2 h1, rfl⟩
theorem zmU {α : Type} [Inhabited α] {L M : List α} (h : L.Perm M) : ∃ β : Nat → Nat, (∀ i, i < L.length → β i < M.length ∧ M[β i]? = L[i]?) ∧ ∀ i j, i < L.length → j < L.length → β i = β j → i = j := by
 induction h with
 | nil => exact ⟨id, fun i hi => by simp at hi, fun i j hi => by simp at hi⟩
 | @cons x L M _ ih =>
  obtain ⟨β, h1, h2⟩ := ih
  refine ⟨fun i => match i with | 0 => 0 | k + 1 => β k + 1, fun i hi => ?_, fun i j hi hj he => ?_⟩
  ·cases i with
   | zero => exact ⟨by simp, rfl⟩
   | succ k => have := h1 k (by simpa using hi); exact ⟨by simpa using this.1, by simpa using this.2⟩
  ·cases i <;> cases j
   ·rfl
   ·simp at he
   ·simp at he
   ·rename_i a b
    have := h2 a b (by simpa using hi) (by simpa using hj) (by simpa using he)
    omega
 | @swap x y L =>
  refine ⟨fun i => if i = 0 then 1 else if i = 1 then 0 else i, fun i hi => ?_, fun i j hi hj he => ?_⟩
  ·match i, hi with
   | 0, _ => exact ⟨by simp, rfl⟩
   | 1, _ => exact ⟨by simp, rfl⟩
   | k + 2, hi => exact ⟨by simpa using hi, rfl⟩
  ·dsimp only at he
   split at he <;> split at he <;> (try split at he) <;> (try split at he) <;> omega
 | @trans A B C hab hbc ih1 ih2 =>
  obtain ⟨β, h1, h2⟩ := ih1
  obtain ⟨γ, h3, h4⟩ := ih2
  refine ⟨fun i => γ (β i), fun i hi => ?_, fun i j hi hj he => h2 i j hi hj (h4 _ _ (h1 i hi).1 (h1 j hj).1 he)⟩
  have a := h1 i hi
  have b := h3 _ a.1
  exact ⟨b.1, b.2.trans a.2⟩
theorem znH {nt : Nat} {e e1 : Env} {h h1 : Heap} {L M : List TkR} (hp : L.Perm M) (hn : M.length ≤ 150) (he : Sub e1 e) (hh : Sub h1 h) (hG : ∀ id b, look (famT M 300) id = some b → look h id = some b) (hkeys : ∀ id b, look h1 id = some b → id < 300 ∨ 600 ≤ id) (hev : ∀ t c, look e1 t = some c → ∀ j, 300 ≤ j → j < 600 → c.has j = false) (hbv : ∀ id b, look h1 id = some b → ∀ j, 300 ≤ j → j < 600 → blkHas j b = false) : AWk nt e h e1 (h1 ++ famT L 300) := by
 obtain ⟨β, hβ, hinj⟩ := zmU hp
 have hlen := hp.length_eq
 have dom : ∀ j, (look (famT L 300) j).isSome = true → ∃ i c, i < L.length ∧ c < 2 ∧ j = 300 + 2 * i + c := fun j hj => by
  obtain ⟨b, hb⟩ := Option.isSome_iff_exists.1 hj
  obtain ⟨i, hi, ⟨h1, _⟩ | ⟨h1, _⟩⟩ := zcb _ _ _ _ hb
  ·exact ⟨i, 0, hi, by omega, by omega⟩
  ·exact ⟨i, 1, hi, by omega, by omega⟩
 have no : ∀ j, 300 ≤ j → j < 600 → look h1 j = none := fun j g1 g2 => by
  cases hl : look h1 j with
  | none => rfl
  | some b => have := hkeys j b hl; omega
 have at_ : ∀ i c, c < 2 → (300 + 2 * i + c - 300) / 2 = i ∧ (300 + 2 * i + c - 300) % 2 = c := fun i c hc => by omega
 refine ziv (fun j => some (300 + 2 * β ((j - 300) / 2) + (j - 300) % 2)) he hh (fun j b hb => ?_) (fun j j' p hj hj' hs hs' => ?_) (fun j hj => ?_) (fun j p hj hp => ?_) (fun t c ht j hj => ?_) (fun id b hb j hj => ?_)
 ·have hx := (zad hb).2.2
  obtain ⟨i, hi, h1⟩ := zcb _ _ _ _ hb
  obtain ⟨hb1, hb2⟩ := hβ i hi
  have hm := zbV M 300 (β i) hb1
  have hMe : M[β i] = L[i] := by
   rw [List.getElem?_eq_getElem hb1, List.getElem?_eq_getElem hi] at hb2
   exact Option.some.inj hb2
  rw [hMe] at hm
  rcases h1 with ⟨h1, h2⟩ | ⟨h1, h2⟩
  ·have := at_ i 0 (by omega)
   refine ⟨300 + 2 * β i, by rw [h1, show 300 + 2 * i = 300 + 2 * i + 0 by omega, this.1, this.2, Nat.add_zero], by rw [h2]; exact hG _ _ hm.1, hx, by omega⟩
  ·have := at_ i 1 (by omega)
   refine ⟨300 + 2 * β i + 1, by rw [h1, this.1, this.2], by rw [h2]; exact hG _ _ hm.2, hx, by omega⟩
 ·obtain ⟨i, c, hi, hc, rfl⟩ := dom j hs
  obtain ⟨i', c', hi', hc', rfl⟩ := dom j' hs'
  have a := at_ i c hc
  have b := at_ i' c' hc'
  have h1 := Option.some.inj hj
  have h2 := Option.some.inj hj'
  rw [a.1, a.2] at h1
  rw [b.1, b.2] at h2
  have h3 : β i = β i' := by omega
  have := hinj i i' hi hi' h3
  omega
 ·obtain ⟨i, c, hi, hc, rfl⟩ := dom j hj
  exact no _ (by omega) (by omega)
 ·obtain ⟨i, c, hi, hc, rfl⟩ := dom j hj
  have a := at_ i c hc
  have h1 := Option.some.inj hp
  rw [a.1, a.2] at h1
  have := (hβ i hi).1
  exact no _ (by omega) (by omega)
 ·obtain ⟨i, c, hi, hc, rfl⟩ := dom j hj
  exact hev t _ ht _ (by omega) (by omega)
 ·obtain ⟨i, c, hi, hc, rfl⟩ := dom j hj
  exact hbv id b hb _ (by omega) (by omega)
end Ab
end Go.Proofs.YtmmdkjanmegjdaaGreat

namespace Go.Proofs.YtmmdkjanmegjdaaGreat.Ab
open Go.RowKit Go.Lib
attribute [local irreducible] AWp AOps AQ AYield AEff ACall AWk AAny AAt AThen AIn APost NoPanic
theorem ziL (x : Int) : ACall Tryz.prog 56 [.d (.sc (.int .i64 x))] [] (Just (boolA false)) := by
 refine zf za Tryz.func56 rfl Tryz.ntmps56 (congrArg Array.toList Tryz.results56) (by kernel_rfl) rfl ?_
 repeat (first | refine q_Y ?_ | ((first | apply q_K rfl | apply q_X rfl); (exact q_H)) | refine q_U ?_)
 exact zk rfl ⟨rfl, rfl⟩
theorem zaG (x y : Int) : ACall Tryz.prog 34 [.d (.sc (.int .i64 x)), .d (.sc (.int .i64 y))] [] (Just (intA (c2 x y))) := by
 have hx := ziL x
 have hy := ziL y
 refine zf za Tryz.func34 rfl Tryz.ntmps34 (congrArg Array.toList Tryz.results34) (by kernel_rfl) rfl ?_
 unfold c2
 by_cases h1 : x < y
 ·rw [if_pos h1]
  repeat (first | refine q_Y ?_ | ((first | apply q_K rfl | apply q_X rfl); (exact q_H)) | refine q_U ?_ | (first | refine q_O hx ?_ | refine q_O hy ?_ | refine q_Q hx ?_ | refine q_Q hy ?_))
  exact zk rfl ⟨rfl, rfl⟩
 ·rw [if_neg h1]
  by_cases h2 : y < x
  ·rw [if_pos h2]
   repeat (first | refine q_Y ?_ | ((first | apply q_K rfl | apply q_X rfl); (exact q_H)) | refine q_U ?_ | (first | refine q_O hx ?_ | refine q_O hy ?_ | refine q_Q hx ?_ | refine q_Q hy ?_))
   exact zk rfl ⟨rfl, rfl⟩
  ·rw [if_neg h2]
   repeat (first | refine q_Y ?_ | ((first | apply q_K rfl | apply q_X rfl); (exact q_H)) | refine q_U ?_ | (first | refine q_O hx ?_ | refine q_O hy ?_ | refine q_Q hx ?_ | refine q_Q hy ?_))
   exact zk rfl ⟨rfl, rfl⟩
theorem zk8 (x : Int) : ACall Tryz.prog 112 [.d (.sc (.int .u8 x))] [] (Just (boolA false)) := by
 refine zf za Tryz.func112 rfl Tryz.ntmps112 (congrArg Array.toList Tryz.results112) (by kernel_rfl) rfl ?_
 repeat (first | refine q_Y ?_ | ((first | apply q_K rfl | apply q_X rfl); (exact q_H)) | refine q_U ?_)
 exact zk rfl ⟨rfl, rfl⟩
theorem zif (x y : Int) : ACall Tryz.prog 69 [.d (.sc (.int .u8 x)), .d (.sc (.int .u8 y))] [] (Just (intA (c2 x y))) := by
 have hx := zk8 x
 have hy := zk8 y
 refine zf za Tryz.func69 rfl Tryz.ntmps69 (congrArg Array.toList Tryz.results69) (by kernel_rfl) rfl ?_
 unfold c2
 by_cases h1 : x < y
 ·rw [if_pos h1]
  repeat (first | refine q_Y ?_ | ((first | apply q_K rfl | apply q_X rfl); (exact q_H)) | refine q_U ?_ | (first | refine q_O hx ?_ | refine q_O hy ?_ | refine q_Q hx ?_ | refine q_Q hy ?_))
  exact zk rfl ⟨rfl, rfl⟩
 ·rw [if_neg h1]
  by_cases h2 : y < x
  ·rw [if_pos h2]
   repeat (first | refine q_Y ?_ | ((first | apply q_K rfl | apply q_X rfl); (exact q_H)) | refine q_U ?_ | (first | refine q_O hx ?_ | refine q_O hy ?_ | refine q_Q hx ?_ | refine q_Q hy ?_))
   exact zk rfl ⟨rfl, rfl⟩
  ·rw [if_neg h2]
   repeat (first | refine q_Y ?_ | ((first | apply q_K rfl | apply q_X rfl); (exact q_H)) | refine q_U ?_ | (first | refine q_O hx ?_ | refine q_O hy ?_ | refine q_Q hx ?_ | refine q_Q hy ?_))
   exact zk rfl ⟨rfl, rfl⟩
theorem zgX (x : Int) : ACall Tryz.prog 82 [.d (.sc (.int .u32 x))] [] (Just (boolA false)) := by
 refine zf za Tryz.func82 rfl Tryz.ntmps82 (congrArg Array.toList Tryz.results82) (by kernel_rfl) rfl ?_
 repeat (first | refine q_Y ?_ | ((first | apply q_K rfl | apply q_X rfl); (exact q_H)) | refine q_U ?_)
 exact zk rfl ⟨rfl, rfl⟩
theorem zdF (x y : Int) : ACall Tryz.prog 49 [.d (.sc (.int .u32 x)), .d (.sc (.int .u32 y))] [] (Just (intA (c2 x y))) := by
 have hx := zgX x
 have hy := zgX y
 refine zf za Tryz.func49 rfl Tryz.ntmps49 (congrArg Array.toList Tryz.results49) (by kernel_rfl) rfl ?_
 unfold c2
 by_cases h1 : x < y
 ·rw [if_pos h1]
  repeat (first | refine q_Y ?_ | ((first | apply q_K rfl | apply q_X rfl); (exact q_H)) | refine q_U ?_ | (first | refine q_O hx ?_ | refine q_O hy ?_ | refine q_Q hx ?_ | refine q_Q hy ?_))
  exact zk rfl ⟨rfl, rfl⟩
 ·rw [if_neg h1]
  by_cases h2 : y < x
  ·rw [if_pos h2]
   repeat (first | refine q_Y ?_ | ((first | apply q_K rfl | apply q_X rfl); (exact q_H)) | refine q_U ?_ | (first | refine q_O hx ?_ | refine q_O hy ?_ | refine q_Q hx ?_ | refine q_Q hy ?_))
   exact zk rfl ⟨rfl, rfl⟩
  ·rw [if_neg h2]
   repeat (first | refine q_Y ?_ | ((first | apply q_K rfl | apply q_X rfl); (exact q_H)) | refine q_U ?_ | (first | refine q_O hx ?_ | refine q_O hy ?_ | refine q_Q hx ?_ | refine q_Q hy ?_))
   exact zk rfl ⟨rfl, rfl⟩
theorem ziK (x : List UInt8) : ACall Tryz.prog 113 [strA x] [] (Just (boolA false)) := by
 refine zf za Tryz.func113 rfl Tryz.ntmps113 (congrArg Array.toList Tryz.results113) (by kernel_rfl) rfl ?_
 repeat (first | refine q_Y ?_ | ((first | apply q_K rfl | apply q_X rfl); (first | exact q_H | (first | exact R_sF rfl rfl rfl rfl (by first | (simp only [decide_eq_false_iff_not, Bool.not_eq_false', decide_eq_true_eq]; done) | (simp only [decide_eq_false_iff_not, Bool.not_eq_false', decide_eq_true_eq]; omega)) | exact R_sT rfl rfl rfl rfl (by first | (simp only [decide_eq_true_eq, Bool.not_eq_true', decide_eq_false_iff_not]; done) | (simp only [decide_eq_true_eq, Bool.not_eq_true', decide_eq_false_iff_not]; omega))))) | refine q_U ?_)
 exact zk rfl ⟨rfl, rfl⟩
theorem zhl (x y : List UInt8) : compareBytes x y = -1 ∨ compareBytes x y = 0 ∨ compareBytes x y = 1 := by
 induction x generalizing y with
 | nil => cases y <;> simp [compareBytes]
 | cons a x ih =>
  cases y with
  | nil => simp [compareBytes]
  | cons b y =>
   simp only [compareBytes]
   split
   ·exact .inl rfl
   ·split
    ·exact .inr (.inr rfl)
    ·exact ih y
theorem zhi (x y : List UInt8) : ACall Tryz.prog 70 [strA x, strA y] [] (Just (intA (compareBytes x y))) := by
 have hx := ziK x
 have hy := ziK y
 refine zf za Tryz.func70 rfl Tryz.ntmps70 (congrArg Array.toList Tryz.results70) (by kernel_rfl) rfl ?_
 rcases zhl x y with h | h | h
 ·
  repeat (first | refine q_Y ?_ | ((first | apply q_K rfl | apply q_X rfl); (first | exact q_H | (first | exact R_sF rfl rfl rfl rfl (by first | (simp only [decide_eq_false_iff_not, Bool.not_eq_false', decide_eq_true_eq]; done) | (simp only [decide_eq_false_iff_not, Bool.not_eq_false', decide_eq_true_eq]; omega)) | exact R_sT rfl rfl rfl rfl (by first | (simp only [decide_eq_true_eq, Bool.not_eq_true', decide_eq_false_iff_not]; done) | (simp only [decide_eq_true_eq, Bool.not_eq_true', decide_eq_false_iff_not]; omega))))) | refine q_U ?_ | (first | refine q_O hx ?_ | refine q_O hy ?_ | refine q_Q hx ?_ | refine q_Q hy ?_))
  exact zk rfl ⟨by rw [h]; rfl, rfl⟩
 ·
  repeat (first | refine q_Y ?_ | ((first | apply q_K rfl | apply q_X rfl); (first | exact q_H | (first | exact R_sF rfl rfl rfl rfl (by first | (simp only [decide_eq_false_iff_not, Bool.not_eq_false', decide_eq_true_eq]; done) | (simp only [decide_eq_false_iff_not, Bool.not_eq_false', decide_eq_true_eq]; omega)) | exact R_sT rfl rfl rfl rfl (by first | (simp only [decide_eq_true_eq, Bool.not_eq_true', decide_eq_false_iff_not]; done) | (simp only [decide_eq_true_eq, Bool.not_eq_true', decide_eq_false_iff_not]; omega))))) | refine q_U ?_ | (first | refine q_O hx ?_ | refine q_O hy ?_ | refine q_Q hx ?_ | refine q_Q hy ?_))
  exact zk rfl ⟨by rw [h]; rfl, rfl⟩
 ·
  repeat (first | refine q_Y ?_ | ((first | apply q_K rfl | apply q_X rfl); (first | exact q_H | (first | exact R_sF rfl rfl rfl rfl (by first | (simp only [decide_eq_false_iff_not, Bool.not_eq_false', decide_eq_true_eq]; done) | (simp only [decide_eq_false_iff_not, Bool.not_eq_false', decide_eq_true_eq]; omega)) | exact R_sT rfl rfl rfl rfl (by first | (simp only [decide_eq_true_eq, Bool.not_eq_true', decide_eq_false_iff_not]; done) | (simp only [decide_eq_true_eq, Bool.not_eq_true', decide_eq_false_iff_not]; omega))))) | refine q_U ?_ | (first | refine q_O hx ?_ | refine q_O hy ?_ | refine q_Q hx ?_ | refine q_Q hy ?_))
  exact zk rfl ⟨by rw [h]; rfl, rfl⟩
theorem zjY (x y : Bool) : ACall Tryz.prog 71 [boolA x, boolA y] [] (Just (intA (cB x y))) := by
 refine zf za Tryz.func71 rfl Tryz.ntmps71 (congrArg Array.toList Tryz.results71) (by kernel_rfl) rfl ?_
 cases x <;> cases y
 ·
  repeat (first | refine q_Y ?_ | ((first | apply q_K rfl | apply q_X rfl); (first | exact q_H | exact zfc za rfl rfl rfl rfl rfl)) | refine q_U ?_)
  exact zk rfl ⟨rfl, rfl⟩
 ·
  repeat (first | refine q_Y ?_ | ((first | apply q_K rfl | apply q_X rfl); (first | exact q_H | exact zfc za rfl rfl rfl rfl rfl)) | refine q_U ?_)
  exact zk rfl ⟨rfl, rfl⟩
 ·
  repeat (first | refine q_Y ?_ | ((first | apply q_K rfl | apply q_X rfl); (first | exact q_H | exact zfc za rfl rfl rfl rfl rfl)) | refine q_U ?_)
  exact zk rfl ⟨rfl, rfl⟩
 ·
  repeat (first | refine q_Y ?_ | ((first | apply q_K rfl | apply q_X rfl); (first | exact q_H | exact zfc za rfl rfl rfl rfl rfl)) | refine q_U ?_)
  exact zk rfl ⟨rfl, rfl⟩
end Go.Proofs.YtmmdkjanmegjdaaGreat.Ab

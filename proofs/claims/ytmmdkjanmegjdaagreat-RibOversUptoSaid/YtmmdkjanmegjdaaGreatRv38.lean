/-
 Texts of a proof, one behind the other (part 39).
-/
import Derived.Test.YtmmdkjanmegjdaaGreatRv4
import Derived.Test.YtmmdkjanmegjdaaGreatRv7
import Derived.Test.YtmmdkjanmegjdaaGreatRv10
import Derived.Test.YtmmdkjanmegjdaaGreatRv36
import Derived.Test.YtmmdkjanmegjdaaGreatRv37
set_option maxRecDepth 100000
set_option linter.unusedSimpArgs false
set_option linter.unusedVariables false
namespace Go.Proofs.YtmmdkjanmegjdaaGreat.Ab
open Go.RowKit Go.Lib
theorem ACall.reG2 {P : Program} {α : Type} {f : FuncId} {args : List AVal} {h : Heap} {p id : Nat} {z : Dat} {Φ : α → Prop} {H1 H2 : α → Heap} (κ : α → Nat → Option Nat) (H : ACall P f args h (fun c h' => ∃ x, Φ x ∧ c = .tup [.row p, .d z] ∧ h' = H1 x))
  (h1 : ∀ x, Φ x → ∀ j b, look (H2 x) j = some b → ∃ q, κ x j = some q ∧ look (H1 x) q = some b ∧ plainB b = true) (h2 : ∀ x, Φ x → ∀ j q, κ x j = some q → j < 1000 ∧ (look (H2 x) j).isSome = true)
  (h3 : ∀ x, Φ x → ∀ i j q, κ x i = some q → κ x j = some q → i = j) (h4 : ∀ x, Φ x → κ x id = some p) (hpl : plainD z = true) : ACall P f args h (fun c h' => ∃ x, Φ x ∧ c = .tup [.row id, .d z] ∧ h' = H2 x) :=
 ⟨H.1, fun Pm F w0 pin ι0 us w a b => (H.2 Pm F w0 pin ι0 us w a b).mono fun y w' ⟨u, c, h', ι, hy, ⟨x, hx, e1, e2⟩, H, hv⟩ => by
  subst e1 e2
  let ι2 : Nat → Option Value := fun j => match κ x j with | some q => ι q | none => none
  have hι : ∀ i u, ι2 i = some u → ∃ q, κ x i = some q ∧ ι q = some u := fun i u hu => by
   simp only [ι2] at hu
   cases hk : κ x i with
   | none => rw [hk] at hu; cases hu
   | some q => rw [hk] at hu; exact ⟨q, rfl, hu⟩
  have of : ∀ i q, κ x i = some q → ι2 i = ι q := fun i q hk => by simp only [ι2, hk]
  refine ⟨u, .tup [.row id, .d z], _, ι2, hy, ⟨x, hx, rfl, rfl⟩, ⟨fun i b hb => ?_, fun i u hu => ?_, fun i j u u' r hij hi hj => ?_, fun i u r hu => ?_, H.os, H.tape, H.output, H.size, H.keep, H.fresh, fun i u h1 hu => ?_, fun i u r hu => ?_, H.forb⟩, ?_⟩
  ·obtain ⟨q, g1, g2, g3⟩ := h1 x hx i b hb
   obtain ⟨v, hv2, hB⟩ := H.blk q b g2
   exact ⟨v, by rw [of i q g1]; exact hv2, hB.plain g3⟩
  ·obtain ⟨q, g1, g2⟩ := hι i u hu
   exact Option.isSome_iff_exists.1 (h2 x hx i q g1).2
  ·obtain ⟨q, g1, g2⟩ := hι i u hi
   obtain ⟨q2, g3, g4⟩ := hι j u' hj
   refine H.inj q q2 u u' r ?_ g2 g4
   rintro rfl
   exact hij (h3 x hx i j q g1 g3)
  ·obtain ⟨q, g1, g2⟩ := hι i u hu
   exact H.pm q u r g2
  ·obtain ⟨q, g1, g2⟩ := hι i u hu
   have := (h2 x hx i q g1).1; omega
  ·obtain ⟨q, g1, g2⟩ := hι i u hu
   exact H.nf q u r g2
  ·cases hv with
   | tup _ C hl hh =>
    have hz : plainD z = true := hpl
    refine .tup _ C hl fun i c u g1 g2 => ?_
    match i, g1 with
    | 0, g1 =>
     cases g1
     have := hh 0 _ u rfl g2
     cases this with
     | row _ _ g3 g4 => exact .row id u g3 fun v2 hv2 => g4 v2 (by rw [← of id p (h4 x hx)]; exact hv2)
    | 1, g1 =>
     cases g1
     have := hh 1 _ u rfl g2
     cases this with
     | d _ _ hd => exact .d _ _ (DRel.plain hz hd)⟩
def oD (r b : Nat) (k : Nat) : Bool := decide (k = r ∨ b ≤ k ∧ k < b + 300)
theorem zlO {L : List TkR} {r b : Nat} (hn : L.length ≤ 140) : Clo ((r, tkrB L) :: famT L b) (oD r b) := ⟨fun id bl hb => by
 by_cases h : r = id
 ·subst h; rw [ze] at hb; cases hb
  exact ⟨by simp [oD], fun j _ => rfl⟩
 ·rw [zc _ _ h] at hb
  have h1 := zad hb
  exact ⟨by simp only [oD, decide_eq_true_eq]; omega, fun j _ => zcV h1.2.2 j⟩⟩
theorem zlP {L : List TkR} {b : Nat} (hn : L.length ≤ 140) : Clo (famT L b) (oD b b) := ⟨fun id bl hb => by
 have h1 := zad hb
 exact ⟨by simp only [oD, decide_eq_true_eq]; omega, fun j _ => zcV h1.2.2 j⟩⟩
theorem tk_q (L : List TkR) (er : AVal) (her : ∀ j, er.has j = false) (hn : L.length ≤ 140) : (((27, tkrB L) :: famT L 300).map (·.1)).all (fun j => Nat.blt j 1000) = true ∧ (∀ id b j, look ((27, tkrB L) :: famT L 300) id = some b → blkHas j b = true → (look ((27, tkrB L) :: famT L 300) j).isSome = true) ∧ ∀ j, (AVal.tup [.row 27, er]).has j = true → (look ((27, tkrB L) :: famT L 300) j).isSome = true := by
 refine ⟨?_, fun id b j hb hj => ?_, fun j hj => ?_⟩
 ·rw [List.all_eq_true]
  intro j hj
  rcases List.mem_cons.1 hj with rfl | h1
  ·rfl
  ·obtain ⟨bl, hb⟩ := zbU h1
   have := zad hb
   exact Nat.ble_eq_true_of_le (by omega)
 ·by_cases h : 27 = id
  ·subst h; rw [ze] at hb; cases hb; cases hj
  ·rw [zc _ _ h] at hb; rw [zcV (zad hb).2.2] at hj; cases hj
 ·have h1 : ((27 == j) || (er.has j || false)) = true := hj
  rw [her j] at h1
  have : 27 = j := by simpa using h1
  subst this
  rfl
theorem zjv (L : List TkR) : plainB (tkrB L) = true := zju L
theorem zoo (d : Dvc) (l : List Rds) (rs : List Rte) (ospf : Bool) (hok : OkO d l rs) (h140 : rs.length ≤ 140) (hlen : (overR d l rs ospf).1.length ≤ 140) : ACall Tryz.prog 6 [dvcA d, rdssA l, rtesA rs, boolA ospf] [] (fun c h => ∃ L : List TkR, L.map (·.t) = (overR d l rs ospf).1 ∧ c = .tup [.row 28, .d (iD (overR d l rs ospf).2)] ∧ h = (28, tkrB L) :: famT L 600) := by
 have hL : ∀ L : List TkR, L.map (·.t) = (overR d l rs ospf).1 → L.length ≤ 140 := fun L h => by
  have := congrArg List.length h
  rw [List.length_map] at this; omega
 refine ACall.reG2 (fun L j => if j = 28 then some 27 else if 600 ≤ j ∧ j < 600 + 2 * L.length then some (j - 300) else none) (zkN d l rs ospf hok h140) (fun L h j bl hb => ?_) (fun L h j q hq => ?_) (fun L h i j q hi hj => ?_) (fun L h => if_pos rfl) rfl
 ·have hl := hL L h
  by_cases h3 : 28 = j
  ·subst h3; rw [ze] at hb; cases hb
   exact ⟨27, if_pos rfl, rfl, zjv L⟩
  ·rw [zc _ _ h3] at hb
   have hx := zjM (zad hb).2.2
   obtain ⟨i, hi, ⟨rfl, rfl⟩ | ⟨rfl, rfl⟩⟩ := zcb L 600 j bl hb
   ·refine ⟨300 + 2 * i, by rw [if_neg (by omega), if_pos (by omega), show 600 + 2 * i - 300 = 300 + 2 * i by omega], ?_, hx⟩
    rw [zc _ _ (by omega)]
    exact (zbV L 300 i hi).1
   ·refine ⟨300 + 2 * i + 1, by rw [if_neg (by omega), if_pos (by omega), show 600 + 2 * i + 1 - 300 = 300 + 2 * i + 1 by omega], ?_, hx⟩
    rw [zc _ _ (by omega)]
    exact (zbV L 300 i hi).2
 ·have hl := hL L h
  split at hq
  ·rename_i h1; subst h1; exact ⟨by decide, by rw [ze]; rfl⟩
  ·split at hq
   ·rename_i h1 h2
    refine ⟨by omega, ?_⟩
    rw [zc _ _ (by omega)]
    have h5 := zbV L 600 ((j - 600) / 2) (by omega)
    rcases (by omega : j = 600 + 2 * ((j - 600) / 2) ∨ j = 600 + 2 * ((j - 600) / 2) + 1) with h6 | h6
    ·rw [h6, h5.1]; rfl
    ·rw [h6, h5.2]; rfl
   ·cases hq
 ·have hl := hL L h
  split at hi <;> split at hj
  ·omega
  ·split at hj
   ·cases hi; have := Option.some.inj hj; omega
   ·cases hj
  ·split at hi
   ·cases hj; have := Option.some.inj hi; omega
   ·cases hi
  ·split at hi <;> split at hj
   ·have h1 := Option.some.inj hi; have h2 := Option.some.inj hj; omega
   ·cases hj
   ·cases hi
   ·cases hi
theorem zpt (L : List TkR) (er : AVal) (her : ∀ j, er.has j = false) (hn : L.length ≤ 140) : (((28, tkrB L) :: famT L 600).map (·.1)).all (fun j => Nat.blt j 1000) = true ∧ (∀ id b j, look ((28, tkrB L) :: famT L 600) id = some b → blkHas j b = true → (look ((28, tkrB L) :: famT L 600) j).isSome = true) ∧ ∀ j, (AVal.tup [.row 28, er]).has j = true → (look ((28, tkrB L) :: famT L 600) j).isSome = true := by
 refine ⟨?_, fun id b j hb hj => ?_, fun j hj => ?_⟩
 ·rw [List.all_eq_true]
  intro j hj
  rcases List.mem_cons.1 hj with rfl | h1
  ·rfl
  ·obtain ⟨bl, hb⟩ := zbU h1
   have := zad hb
   exact Nat.ble_eq_true_of_le (by omega)
 ·by_cases h : 28 = id
  ·subst h; rw [ze] at hb; cases hb; cases hj
  ·rw [zc _ _ h] at hb; rw [zcV (zad hb).2.2] at hj; cases hj
 ·have h1 : ((28 == j) || (er.has j || false)) = true := hj
  rw [her j] at h1
  have : 28 = j := by simpa using h1
  subst this
  rfl
theorem zgI {h : Heap} {s : Sbj} {v w : Value} {i j : Nat} (h1 : look h i = some (uX v s.path)) (h2 : look h j = some (uX w s.com)) : RawV h (aggD (sbjH s v w)) (aggD (sbjD s)) :=
 .agg (sbjH s v w) (sbjD s) (.cons (.same _) (.cons (.same _) (.cons (.same _) (.cons (.same _) (.cons (.same _) (.cons (.row v i 44 1 s.path.length (s.path.flatMap u1D) h1) (.cons (.row w j 44 1 s.com.length (s.com.flatMap u1D) h2) (.cons (.same _) (.nil _)))))))))
theorem zfR {cs : List Dat} {L : List TkR} {i : Nat} (hi : i < L.length) (h : cs.drop (i * 9) = (L.drop i).flatMap tkrD) (o m : Nat) (hom : o + m ≤ 9) : win cs (i * 9 + o) m = ((tkrD L[i]).drop o).take m := by
 unfold win
 have hl := zb5 L[i]
 rw [← List.drop_drop, h, List.drop_eq_getElem_cons hi, List.flatMap_cons, List.drop_append_of_le_length (by omega), List.take_append_of_le_length (by rw [List.length_drop]; omega)]
theorem zno {cs : List Dat} {L : List TkR} {i : Nat} {z : Dat} (hi : i < L.length) (hl : cs.length = L.length * 9) (h : cs.drop (i * 9) = (L.drop i).flatMap tkrD) : (setW cs (i * 9 + 0) [z]).drop ((i + 1) * 9) = (L.drop (i + 1)).flatMap tkrD := by
 have h9 := zb5 L[i]
 have hm : (i + 1) * 9 ≤ L.length * 9 := Nat.mul_le_mul_right _ hi
 have e1 : (L.drop (i + 1)).flatMap tkrD = (cs.drop (i * 9)).drop 9 := by
  rw [h, List.drop_eq_getElem_cons hi, List.flatMap_cons, List.drop_append_of_le_length (by omega), show (tkrD L[i]).drop 9 = [] from rfl, List.nil_append]
 rw [e1, List.drop_drop]
 unfold setW
 rw [List.drop_append, List.drop_append, List.length_append, List.length_take, Nat.min_eq_left (by omega), List.drop_of_length_le (by rw [List.length_take]; omega), List.nil_append, List.length_singleton, List.drop_of_length_le (by simp; omega), List.nil_append, List.drop_drop]
 congr 1
 omega
theorem look4 {a b c d bl : ABlk} {X : Heap} {j : Nat} (h : look ((6, a) :: (7, b) :: (8, c) :: (9, d) :: X) j = some bl) : (j = 6 ∧ bl = a) ∨ (j = 7 ∧ bl = b) ∨ (j = 8 ∧ bl = c) ∨ (j = 9 ∧ bl = d) ∨ (look X j = some bl ∧ j ≠ 6 ∧ j ≠ 7 ∧ j ≠ 8 ∧ j ≠ 9) := by
 by_cases h6 : 6 = j
 ·subst h6; rw [ze] at h; cases h; exact .inl ⟨rfl, rfl⟩
 rw [zc _ _ h6] at h
 by_cases h7 : 7 = j
 ·subst h7; rw [ze] at h; cases h; exact .inr (.inl ⟨rfl, rfl⟩)
 rw [zc _ _ h7] at h
 by_cases h8 : 8 = j
 ·subst h8; rw [ze] at h; cases h; exact .inr (.inr (.inl ⟨rfl, rfl⟩))
 rw [zc _ _ h8] at h
 by_cases h9 : 9 = j
 ·subst h9; rw [ze] at h; cases h; exact .inr (.inr (.inr (.inl ⟨rfl, rfl⟩)))
 rw [zc _ _ h9] at h
 exact .inr (.inr (.inr (.inr ⟨h, by omega, by omega, by omega, by omega⟩)))
def twD (k : Nat) : Bool := decide (k = 6 ∨ k = 7 ∨ k = 8 ∨ k = 9 ∨ 300 ≤ k ∧ k < 900)
abbrev restO (L M : List TkR) (i : Nat) : Heap := famT (L.drop i) (300 + 2 * i) ++ famT (M.drop i) (600 + 2 * i)
theorem zdn {L M : List TkR} (hL : L.length ≤ 140) (hM : M.length ≤ 140) {i j : Nat} {b : ABlk} (hi : i ≤ L.length) (hj : i ≤ M.length) (h : look (restO L M i) j = some b) : isX b = true ∧ ((300 + 2 * i ≤ j ∧ j < 580) ∨ (600 + 2 * i ≤ j ∧ j < 880)) := by
 rw [zI] at h
 cases hl : look (famT (L.drop i) (300 + 2 * i)) j with
 | some c =>
  rw [hl] at h; cases h
  have h1 := zad hl
  rw [List.length_drop] at h1
  exact ⟨h1.2.2, .inl (by omega)⟩
 | none =>
  rw [hl] at h
  have h : look (famT (M.drop i) (600 + 2 * i)) j = some b := h
  have h1 := zad h
  rw [List.length_drop] at h1
  exact ⟨h1.2.2, .inr (by omega)⟩
theorem zcc {L M : List TkR} (hL : L.length ≤ 140) (hM : M.length ≤ 140) {i : Nat} (hi : i ≤ L.length) (hj : i ≤ M.length) : Clo (restO L M i) (fun k => decide (300 ≤ k ∧ k < 900)) := ⟨fun id b hb => by
 have h1 := zdn hL hM hi hj hb
 exact ⟨by simp only [decide_eq_true_eq]; omega, fun j _ => zcV h1.1 j⟩⟩
theorem zpa {nt : Nat} {e e1 : Env} {h : Heap} {L M : List TkR} {i n : Nat} {cs : List Dat} (hi : i < L.length) (hj : i < M.length) (hL : L.length ≤ 140) (hM : M.length ≤ 140) (he : Sub e1 e) (h27 : look h 27 = some (.row 52 9 n cs)) (h28 : look h 28 = some (tkrB M)) (hG : ∀ id b, look (restO L M i) id = some b → look h id = some b) (hev : apE twD e1 = true) :
  AWk nt e h e1 ([(27, .row 52 9 n cs), (28, tkrB M)] ++ ((6, uX L[i].v L[i].t.2.path) :: (7, uX L[i].w L[i].t.2.com) :: (8, uX M[i].v M[i].t.2.path) :: (9, uX M[i].w M[i].t.2.com) :: restO L M (i + 1))) := by
 have hL1 := zbV (L.drop i) (300 + 2 * i) 0 (by rw [List.length_drop]; omega)
 have hM1 := zbV (M.drop i) (600 + 2 * i) 0 (by rw [List.length_drop]; omega)
 have eL : (L.drop i)[0]'(by rw [List.length_drop]; omega) = L[i] := by rw [List.getElem_drop]; rfl
 have eM : (M.drop i)[0]'(by rw [List.length_drop]; omega) = M[i] := by rw [List.getElem_drop]; rfl
 rw [eL] at hL1
 rw [eM] at hM1
 have noL : ∀ j, 600 ≤ j → look (famT (L.drop i) (300 + 2 * i)) j = none := fun j h1 => by
  cases hl : look (famT (L.drop i) (300 + 2 * i)) j with
  | none => rfl
  | some c => have := zad hl; rw [List.length_drop] at this; omega
 have gM : ∀ j b, 600 ≤ j → look (famT (M.drop i) (600 + 2 * i)) j = some b → look h j = some b := fun j b h1 hb => hG j b (by rw [zI, noL j h1]; exact hb)
 have gL : ∀ j b, look (famT (L.drop i) (300 + 2 * i)) j = some b → look h j = some b := fun j b hb => hG j b (zd1 hb)
 have nextL : ∀ j b, look (famT (L.drop (i + 1)) (300 + 2 * (i + 1))) j = some b → look (famT (L.drop i) (300 + 2 * i)) j = some b := fun j b hb => by
  have := zad hb
  rw [List.drop_eq_getElem_cons hi, famT, zc _ _ (by omega), zc _ _ (by omega)]
  exact hb
 have nextM : ∀ j b, look (famT (M.drop (i + 1)) (600 + 2 * (i + 1))) j = some b → look (famT (M.drop i) (600 + 2 * i)) j = some b := fun j b hb => by
  have := zad hb
  rw [List.drop_eq_getElem_cons hj, famT, zc _ _ (by omega), zc _ _ (by omega)]
  exact hb
 have gR : ∀ j b, look (restO L M (i + 1)) j = some b → look h j = some b := fun j b hb => by
  have hr := zdn hL hM (by omega) (by omega) hb
  rw [zI] at hb
  cases hl : look (famT (L.drop (i + 1)) (300 + 2 * (i + 1))) j with
  | some c => rw [hl] at hb; cases hb; exact gL j b (nextL j b hl)
  | none =>
   rw [hl] at hb
   have hb : look (famT (M.drop (i + 1)) (600 + 2 * (i + 1))) j = some b := hb
   exact gM j b (by have := zad hb; omega) (nextM j b hb)
 have dom : ∀ j, (look ((6, uX L[i].v L[i].t.2.path) :: (7, uX L[i].w L[i].t.2.com) :: (8, uX M[i].v M[i].t.2.path) :: (9, uX M[i].w M[i].t.2.com) :: restO L M (i + 1)) j).isSome = true → j = 6 ∨ j = 7 ∨ j = 8 ∨ j = 9 ∨ ((302 + 2 * i ≤ j ∧ j < 580) ∨ (602 + 2 * i ≤ j ∧ j < 880)) := fun j hj => by
  obtain ⟨b, hb⟩ := Option.isSome_iff_exists.1 hj
  rcases look4 hb with ⟨h1, _⟩ | ⟨h1, _⟩ | ⟨h1, _⟩ | ⟨h1, _⟩ | ⟨h1, _⟩
  ·exact .inl h1
  ·exact .inr (.inl h1)
  ·exact .inr (.inr (.inl h1))
  ·exact .inr (.inr (.inr (.inl h1)))
  ·have := zdn hL hM (by omega) (by omega) h1
   exact .inr (.inr (.inr (.inr (by omega))))
 have gv : ∀ {j p : Nat}, (if j = 6 then some (300 + 2 * i) else if j = 7 then some (300 + 2 * i + 1) else if j = 8 then some (600 + 2 * i) else if j = 9 then some (600 + 2 * i + 1) else some j) = some p → (j = 6 ∧ p = 300 + 2 * i) ∨ (j = 7 ∧ p = 300 + 2 * i + 1) ∨ (j = 8 ∧ p = 600 + 2 * i) ∨ (j = 9 ∧ p = 600 + 2 * i + 1) ∨ (j ≠ 6 ∧ j ≠ 7 ∧ j ≠ 8 ∧ j ≠ 9 ∧ p = j) := fun {j p} h => by
  split at h
  ·exact .inl ⟨by assumption, (Option.some.inj h).symm⟩
  split at h
  ·exact .inr (.inl ⟨by assumption, (Option.some.inj h).symm⟩)
  split at h
  ·exact .inr (.inr (.inl ⟨by assumption, (Option.some.inj h).symm⟩))
  split at h
  ·exact .inr (.inr (.inr (.inl ⟨by assumption, (Option.some.inj h).symm⟩)))
  ·exact .inr (.inr (.inr (.inr ⟨by assumption, by assumption, by assumption, by assumption, (Option.some.inj h).symm⟩)))
 refine ziv (fun j => if j = 6 then some (300 + 2 * i) else if j = 7 then some (300 + 2 * i + 1) else if j = 8 then some (600 + 2 * i) else if j = 9 then some (600 + 2 * i + 1) else some j) he ⟨h27, h28, trivial⟩ (fun j b hb => ?_) (fun j j' p hj hj' hs hs' => ?_) (fun j hj => ?_) (fun j p hj hp => ?_) (fun t c ht j hj => ?_) (fun id b hb j hj => ?_)
 ·rcases look4 hb with ⟨rfl, rfl⟩ | ⟨rfl, rfl⟩ | ⟨rfl, rfl⟩ | ⟨rfl, rfl⟩ | ⟨h1, h2, h3, h4, h5⟩
  ·exact ⟨_, if_pos rfl, gL _ _ hL1.1, zfE _ _, by omega⟩
  ·exact ⟨_, rfl, gL _ _ hL1.2, zfE _ _, by omega⟩
  ·exact ⟨_, rfl, gM _ _ (by omega) hM1.1, zfE _ _, by omega⟩
  ·exact ⟨_, rfl, gM _ _ (by omega) hM1.2, zfE _ _, by omega⟩
  ·have := zdn hL hM (by omega) (by omega) h1
   exact ⟨j, by rw [if_neg h2, if_neg h3, if_neg h4, if_neg h5], gR j b h1, this.1, by omega⟩
 ·have d1 := dom j hs
  have d2 := dom j' hs'
  rcases gv hj with h1 | h1 | h1 | h1 | h1 <;> rcases gv hj' with h2 | h2 | h2 | h2 | h2 <;> omega
 ·have := dom j hj
  rw [zc _ _ (by omega), zc _ _ (by omega)]; rfl
 ·have := dom j hj
  have h2 := gv hp
  rw [zc _ _ (by omega), zc _ _ (by omega)]; rfl
 ·have h1 := dom j hj
  exact zgi (List.all_eq_true.1 hev _ (zjH ht)) (by simp only [twD, decide_eq_true_eq]; omega)
 ·have h1 : ∀ {id b}, look ([(27, ABlk.row 52 9 n cs), (28, tkrB M)] : Heap) id = some b → blkHas j b = false := fun {id b} hb => by
   by_cases h2 : 27 = id
   ·subst h2; rw [ze] at hb; cases hb; rfl
   ·rw [zc _ _ h2] at hb
    by_cases h3 : 28 = id
    ·subst h3; rw [ze] at hb; cases hb; rfl
    ·rw [zc _ _ h3] at hb; cases hb
  exact h1 hb
end Go.Proofs.YtmmdkjanmegjdaaGreat.Ab

namespace Go.Proofs.YtmmdkjanmegjdaaGreat
open Go.RowKit Go.Lib
theorem zhq {α : Type} (p : α → Bool) (l : List α) (k : Nat) (h : k < l.length) : (l.take (k + 1)).any p = ((l.take k).any p || p l[k]) := by rw [List.take_succ_eq_append_getElem h, List.any_append]; simp
theorem zlZ {α : Type} (p : α → Bool) (l : List α) (k : Nat) (h : k < l.length) : (l.take (k + 1)).all p = ((l.take k).all p && p l[k]) := by rw [List.take_succ_eq_append_getElem h, List.all_append]; simp
namespace Ab
attribute [local irreducible] AWp AOps AQ AYield AEff ACall AWk AAny AAt AThen AIn APost NoPanic
set_option maxHeartbeats 4000000 in
theorem zmN (e : LEnt) (p : Pfx) (he : e.p.ok) (hp : p.ok) : ACall Tryz.prog 132 [aggD (lentD e), pfxA p] [] (Just (boolA (fitsLE e p))) := by
 have hw := zgO p e.p hp he
 obtain ⟨ok, ⟨ea, eb⟩, ge, le⟩ := e
 obtain ⟨pa, pb⟩ := p
 obtain ⟨b, hb⟩ : ∃ b, withinB ⟨pa, pb⟩ ⟨ea, eb⟩ = b := ⟨_, rfl⟩
 unfold fitsLE
 dsimp only at hw ⊢
 rw [hb] at hw ⊢
 refine zf za Tryz.func132 rfl Tryz.ntmps132 (congrArg Array.toList Tryz.results132) (by kernel_rfl) rfl ?_
 cases b with
 | false =>
  repeat (first | refine q_Z ?_ | ((first | apply q_K rfl | apply q_X rfl); (exact q_H)) | refine q_U ?_ | refine q_O hw ?_)
  exact zk rfl ⟨rfl, rfl⟩
 | true =>
  by_cases h1 : ge ≤ pb
  ·by_cases h2 : pb ≤ le
   ·rw [decide_eq_true h1, decide_eq_true h2]
    repeat (first | refine q_Z ?_ | ((first | apply q_K rfl | apply q_X rfl); (exact q_H)) | refine q_U ?_ | refine q_O hw ?_)
    exact zk rfl ⟨rfl, rfl⟩
   ·rw [decide_eq_true h1, decide_eq_false h2]
    repeat (first | refine q_Z ?_ | ((first | apply q_K rfl | apply q_X rfl); (exact q_H)) | refine q_U ?_ | refine q_O hw ?_)
    exact zk rfl ⟨rfl, rfl⟩
  ·rw [decide_eq_false h1]
   repeat (first | refine q_Z ?_ | ((first | apply q_K rfl | apply q_X rfl); (exact q_H)) | refine q_U ?_ | refine q_O hw ?_)
   exact zk rfl ⟨rfl, rfl⟩
set_option maxHeartbeats 4000000 in
theorem zkO (l : List Int) (x : Int) (hn : l.length ≤ 1000000000) : ACall Tryz.prog 121 [usA l, u32A x] [] (Just (boolA (l.any fun d => d == x))) := by
 obtain ⟨b, hb⟩ : ∃ b, (l.any fun d => d == x) = b := ⟨_, rfl⟩
 rw [hb]
 refine zf za Tryz.func121 rfl Tryz.ntmps121 (congrArg Array.toList Tryz.results121) (by kernel_rfl) rfl ?_
 repeat ((fail_if_success refine zb ?_); first | refine q_Y ?_ | ((first | apply q_K rfl | apply q_X rfl); (exact q_G)) | refine q_U ?_)
 try refine zS ?_
 refine zw (fun k : Nat => [(0, usA l), (1, u32A x), (5, natA k)]) (fun _ => []) (fun k => k ≤ l.length ∧ ((l.take k).any fun d => d == x) = false) (fun k => l.length - k) 0 ⟨Nat.zero_le _, rfl⟩ (q_S) ?_
 rintro k ⟨hk, ha⟩
 try dsimp only
 by_cases hkl : k < l.length
 ·have hw := zn zV l k 1 hkl (by decide)
  have ht := zhq (fun d => d == x) l k hkl
  rw [ha, Bool.false_or] at ht
  by_cases he : l[k] = x
  ·obtain rfl : true = b := by
    rw [← hb]
    symm
    exact List.any_eq_true.2 ⟨l[k], List.getElem_mem hkl, by simp [he]⟩
   rw [he] at hw
   repeat ((fail_if_success refine zb ?_); first | refine q_Y ?_ | ((first | apply q_K rfl | apply q_X rfl); (first | exact q_F | (first | exact q_A | exact q_R (w := hw) | exact q_B))) | refine q_U ?_)
   exact zk rfl ⟨rfl, rfl⟩
  ·have ht : ((l.take (k + 1)).any fun d => d == x) = false := by rw [ht]; simp [he]
   repeat ((fail_if_success refine zb ?_); first | refine q_Y ?_ | ((first | apply q_K rfl | apply q_X rfl); (first | exact q_F | (first | exact q_A | exact q_R (w := hw) | exact q_B))) | refine q_U ?_)
   exact ⟨k + 1, ⟨hkl, ht⟩, by omega, q_S⟩
 ·obtain rfl : k = l.length := by omega
  rw [List.take_length, hb] at ha
  subst ha
  repeat ((fail_if_success refine zb ?_); first | refine q_Y ?_ | ((first | apply q_K rfl | apply q_X rfl); (exact q_G)) | refine q_U ?_)
  exact zk rfl ⟨rfl, rfl⟩
set_option maxHeartbeats 4000000 in
theorem zkQ (l : PLst) (p : Pfx) (hl : ∀ e ∈ l.es, e.p.ok) (hp : p.ok) (hn : l.es.length ≤ 1000000000) : ACall Tryz.prog 119 [aggD (plstD l), pfxA p] [] (Just (intA (idxOf (fun e => fitsLE e p) l.es))) := by
 obtain ⟨nm, es⟩ := l
 dsimp only at hl hn ⊢
 refine zf za Tryz.func119 rfl Tryz.ntmps119 (congrArg Array.toList Tryz.results119) (by kernel_rfl) rfl ?_
 refine z7 ?_
 refine zab ?_
 refine q_d ?_
 refine q_d ?_
 refine zB (zG (id := 2) (ds := plstD ⟨nm, es⟩) rfl rfl) ?_
 refine zB (zG (id := 3) (ds := pfxD p) rfl rfl) ?_
 repeat ((fail_if_success refine zb ?_); first | refine q_Y ?_ | ((first | apply q_K rfl | apply q_X rfl); (exact q_G)) | refine q_U ?_)
 try refine zS ?_
 refine zw (fun k : Nat => [(2, .iptr (plstD ⟨nm, es⟩) 0), (3, .iptr (pfxD p) 0), (5, natA k)]) (fun _ => []) (fun k => k ≤ es.length ∧ ∀ j (hj : j < es.length), j < k → fitsLE es[j] p = false) (fun k => es.length - k) 0 ⟨Nat.zero_le _, fun j hj h => absurd h (Nat.not_lt_zero _)⟩ (q_S) ?_
 rintro k ⟨hk, hall⟩
 try dsimp only
 by_cases hkl : k < es.length
 ·have hq := zmN es[k] p (hl _ (List.getElem_mem hkl)) hp
  have hw := zn zcU es k 5 hkl (by decide)
  cases hpb : fitsLE es[k] p with
  | true =>
   rw [hpb] at hq
   repeat ((fail_if_success refine zb ?_); first | refine q_Y ?_ | ((first | apply q_K rfl | apply q_X rfl); (first | exact q_F | (first | exact q_A | exact q_R (w := (by first | exact hw | rfl)) | exact q_B | (exact q_I k hkl)))) | refine q_U ?_ | refine q_Q hq ?_)
   refine zk rfl ⟨?_, rfl⟩
   rw [za4 _ es k hkl (fun j hj => hall j (by omega) hj) hpb]; rfl
  | false =>
   rw [hpb] at hq
   repeat ((fail_if_success refine zb ?_); first | refine q_Y ?_ | ((first | apply q_K rfl | apply q_X rfl); (first | exact q_F | (first | exact q_A | exact q_R (w := (by first | exact hw | rfl)) | exact q_B | (exact q_I k hkl)))) | refine q_U ?_ | refine q_Q hq ?_)
   refine ⟨k + 1, ⟨by omega, fun j hj h => ?_⟩, by omega, q_S⟩
   by_cases hjk : j = k
   ·subst hjk; exact hpb
   ·exact hall j hj (by omega)
 ·
  repeat ((fail_if_success refine zb ?_); first | refine q_Y ?_ | ((first | apply q_K rfl | apply q_X rfl); (exact q_G)) | refine q_U ?_)
  refine zk rfl ⟨?_, rfl⟩
  rw [zav _ es fun x hx => by
   obtain ⟨j, hj, rfl⟩ := List.mem_iff_getElem.1 hx
   exact hall j hj (by omega)]
  rfl
set_option maxHeartbeats 4000000 in
theorem zeL (l : PLst) (p : Pfx) (hl : ∀ e ∈ l.es, e.p.ok) (hp : p.ok) (hn : l.es.length ≤ 1000000000) : ACall Tryz.prog 85 [aggD (plstD l), pfxA p] [] (Just (boolA (permitsL l p))) := by
 have he := zkQ l p hl hp hn
 unfold permitsL
 have hfi := za8 (fun e => fitsLE e p) l.es
 obtain ⟨nm, es⟩ := l
 dsimp only at he hfi ⊢
 rcases hfi with ⟨h1, h2⟩ | ⟨k, hk, h1, h2⟩
 ·rw [h1] at he
  rw [h2]
  refine zf za Tryz.func85 rfl Tryz.ntmps85 (congrArg Array.toList Tryz.results85) (by kernel_rfl) rfl ?_
  repeat ((fail_if_success refine zb ?_); first | refine q_Y ?_ | ((first | apply q_K rfl | apply q_X rfl); (exact q_G)) | refine q_U ?_ | refine q_O he ?_)
  exact zk rfl ⟨rfl, rfl⟩
 ·rw [h1] at he
  rw [h2]
  have hw : win (es.flatMap lentD) (k * 5 + 0) 1 = [.sc (.bool es[k].ok)] := zx zcU es k 0 1 hk (by decide)
  refine zf za Tryz.func85 rfl Tryz.ntmps85 (congrArg Array.toList Tryz.results85) (by kernel_rfl) rfl ?_
  repeat ((fail_if_success refine zb ?_); first | refine q_Y ?_ | ((first | apply q_K rfl | apply q_X rfl); (first | exact q_F | (first | exact q_A | exact q_R (w := (by first | exact hw | rfl)) | exact q_B | (exact q_I k hk)))) | refine q_U ?_ | refine q_O he ?_)
  exact zk rfl ⟨rfl, rfl⟩
set_option maxHeartbeats 8000000 in
theorem zjn (l : CLst) (com : List Int) (hl : ∀ m ∈ l.ms, m.all.length ≤ 1000000000) (hc : com.length ≤ 1000000000) (hn : l.ms.length ≤ 1000000000) : ACall Tryz.prog 120 [aggD (clstD l), usA com] [] (Just (intA (idxOf (fun m => fitsM m com) l.ms))) := by
 obtain ⟨nm, ms⟩ := l
 dsimp only at hl hn ⊢
 refine zf za Tryz.func120 rfl Tryz.ntmps120 (congrArg Array.toList Tryz.results120) (by kernel_rfl) rfl ?_
 refine z7 ?_
 refine zab ?_
 refine q_d ?_
 refine zB (zG (id := 2) (ds := clstD ⟨nm, ms⟩) rfl rfl) ?_
 repeat ((fail_if_success refine zb ?_); first | refine q_Y ?_ | ((first | apply q_K rfl | apply q_X rfl); (exact q_G)) | refine q_U ?_)
 try refine zS ?_
 refine zw (fun k : Nat => [(1, usA com), (2, .iptr (clstD ⟨nm, ms⟩) 0), (5, natA k)]) (fun _ => []) (fun k => k ≤ ms.length ∧ ∀ j (hj : j < ms.length), j < k → fitsM ms[j] com = false) (fun k => ms.length - k) 0 ⟨Nat.zero_le _, fun j hj h => absurd h (Nat.not_lt_zero _)⟩ (q_S) ?_
 rintro k ⟨hk, hall⟩
 try dsimp only
 by_cases hkl : k < ms.length
 ·have hml := hl _ (List.getElem_mem hkl)
  have hend : ∀ b, fitsM ms[k] com = b → b = false → ∀ j (hj : j < ms.length), j < k + 1 → fitsM ms[j] com = false := fun b h1 h2 j hj h => by
   by_cases hjk : j = k
   ·subst hjk; rw [h1, h2]
   ·exact hall j hj (by omega)
  have hat : fitsM ms[k] com = true → idxOf (fun m => fitsM m com) ms = (k : Int) := fun h => za4 _ ms k hkl (fun j hj => hall j (by omega) hj) h
  have hw1 : win (ms.flatMap memD) (k * 2 + 1) 1 = [usD ms[k].all] := zx zdt ms k 1 1 hkl (by decide)
  obtain ⟨m, hm⟩ : ∃ m, ms[k] = m := ⟨_, rfl⟩
  rw [hm] at hml hend hat hw1
  obtain ⟨ok, all⟩ := m
  dsimp only at hml hw1
  have hfm : fitsM ⟨ok, all⟩ com = all.all fun c => com.any fun d => d == c := rfl
  repeat ((fail_if_success refine zb ?_); first | refine q_Y ?_ | ((first | apply q_K rfl | apply q_X rfl); (exact q_G)) | refine q_U ?_)
  try refine zS ?_
  refine zw (fun x : Nat × Bool => [(1, usA com), (2, .iptr (clstD ⟨nm, ms⟩) 0), (5, natA k), (6, boolA x.2), (7, natA x.1)]) (fun _ => []) (fun x => x.1 ≤ all.length ∧ x.2 = (all.take x.1).all fun c => com.any fun d => d == c) (fun x => all.length - x.1) (0, true) ⟨Nat.zero_le _, rfl⟩ (q_S) ?_
  rintro ⟨q, b⟩ ⟨hq, hb⟩
  try dsimp only at hq hb ⊢
  by_cases hql : q < all.length
  ·have hw2 := zn zV all q 1 hql (by decide)
   have hh := zkO com all[q] hc
   have hnx := zlZ (fun c => com.any fun d => d == c) all q hql
   rw [← hb] at hnx
   try dsimp only at hnx
   obtain ⟨r, hr⟩ : ∃ r, (com.any fun d => d == all[q]) = r := ⟨_, rfl⟩
   rw [hr] at hh hnx
   cases b with
   | false =>
    repeat ((fail_if_success refine zb ?_); first | refine q_Y ?_ | ((first | apply q_K rfl | apply q_X rfl); (first | exact q_F | (first | exact q_A | exact q_R (w := (by first | exact hw1 | exact hw2 | rfl)) | exact q_B | (first | exact q_I k hkl | exact q_I q hql)))) | refine q_U ?_)
    exact ⟨(q + 1, false), ⟨hql, by (try dsimp only); rw [hnx]; rfl⟩, by (try dsimp only); omega, q_S⟩
   | true =>
    repeat ((fail_if_success refine zb ?_); first | refine q_Y ?_ | ((first | apply q_K rfl | apply q_X rfl); (first | exact q_F | (first | exact q_A | exact q_R (w := (by first | exact hw1 | exact hw2 | rfl)) | exact q_B | (first | exact q_I k hkl | exact q_I q hql)))) | refine q_U ?_ | refine q_O hh ?_)
    exact ⟨(q + 1, r), ⟨hql, by (try dsimp only); rw [hnx]; rfl⟩, by (try dsimp only); omega, q_S⟩
  ·obtain rfl : q = all.length := by omega
   rw [List.take_length] at hb
   cases b with
   | true =>
    repeat ((fail_if_success refine zb ?_); first | refine q_Y ?_ | ((first | apply q_K rfl | apply q_X rfl); (first | exact q_F | (first | exact q_A | exact q_R (w := (by first | exact hw1 | rfl)) | exact q_B | (exact q_I k hkl)))) | refine q_U ?_)
    exact zk rfl ⟨by rw [hat (by rw [hfm]; exact hb.symm)]; rfl, rfl⟩
   | false =>
    repeat ((fail_if_success refine zb ?_); first | refine q_Y ?_ | ((first | apply q_K rfl | apply q_X rfl); (first | exact q_F | (first | exact q_A | exact q_R (w := (by first | exact hw1 | rfl)) | exact q_B | (exact q_I k hkl)))) | refine q_U ?_)
    exact ⟨k + 1, ⟨hkl, hend false (by rw [hfm]; exact hb.symm) rfl⟩, by omega, q_S⟩
 ·
  repeat ((fail_if_success refine zb ?_); first | refine q_Y ?_ | ((first | apply q_K rfl | apply q_X rfl); (exact q_G)) | refine q_U ?_)
  refine zk rfl ⟨?_, rfl⟩
  rw [zav _ ms fun x hx => by
   obtain ⟨j, hj, rfl⟩ := List.mem_iff_getElem.1 hx
   exact hall j hj (by omega)]
  rfl
set_option maxHeartbeats 4000000 in
theorem zfu (l : CLst) (com : List Int) (hl : ∀ m ∈ l.ms, m.all.length ≤ 1000000000) (hc : com.length ≤ 1000000000) (hn : l.ms.length ≤ 1000000000) : ACall Tryz.prog 86 [aggD (clstD l), usA com] [] (Just (boolA (allowsL l com))) := by
 have he := zjn l com hl hc hn
 unfold allowsL
 have hfi := za8 (fun m => fitsM m com) l.ms
 obtain ⟨nm, ms⟩ := l
 dsimp only at he hfi ⊢
 rcases hfi with ⟨h1, h2⟩ | ⟨k, hk, h1, h2⟩
 ·rw [h1] at he
  rw [h2]
  refine zf za Tryz.func86 rfl Tryz.ntmps86 (congrArg Array.toList Tryz.results86) (by kernel_rfl) rfl ?_
  repeat ((fail_if_success refine zb ?_); first | refine q_Y ?_ | ((first | apply q_K rfl | apply q_X rfl); (exact q_G)) | refine q_U ?_ | refine q_O he ?_)
  exact zk rfl ⟨rfl, rfl⟩
 ·rw [h1] at he
  rw [h2]
  have hw : win (ms.flatMap memD) (k * 2 + 0) 1 = [.sc (.bool ms[k].ok)] := zx zdt ms k 0 1 hk (by decide)
  refine zf za Tryz.func86 rfl Tryz.ntmps86 (congrArg Array.toList Tryz.results86) (by kernel_rfl) rfl ?_
  repeat ((fail_if_success refine zb ?_); first | refine q_Y ?_ | ((first | apply q_K rfl | apply q_X rfl); (first | exact q_F | (first | exact q_A | exact q_R (w := (by first | exact hw | rfl)) | exact q_B | (exact q_I k hk)))) | refine q_U ?_ | refine q_O he ?_)
  exact zk rfl ⟨rfl, rfl⟩
end Ab
end Go.Proofs.YtmmdkjanmegjdaaGreat

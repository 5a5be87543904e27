/-
  The frame of all walks of this seat: 'Kp L w w'': of what was there in w nothing has turned but the blocks in L. What is known of memory (cells, slices that are read, rows that are owned) is carried over it.
-/
import Derived.Test.YtaecjmjdhbjbkaaBase
import Derived.Deep.MidRow
namespace Go.Proofs.Ytaecjmjdhbjbkaa
set_option linter.unusedVariables false
open Go.RowKit Go.Sort

structure Kp (L : List Nat) (w w' : World) : Prop where
  os : w'.os = w.os
  tape : w'.tape = w.tape
  output : w'.output = w.output
  size : w.heap.size ≤ w'.heap.size
  block : ∀ k, k < w.heap.size → k ∉ L → w'.heap[k]? = w.heap[k]?

section
variable {L M : List Nat} {w w0 w1 w2 : World}
theorem Kp.refl (L : List Nat) (w : World) : Kp L w w := ⟨rfl, rfl, rfl, Nat.le_refl _, fun _ _ _ => rfl⟩
theorem Kp.of_below (h : Below w.heap.size w w1) : Kp [] w w1 := ⟨h.os, h.tape, h.output, h.size, fun k hk _ => h.block k hk⟩
theorem Kp.below (h : Kp [] w w1) : Below w.heap.size w w1 := ⟨h.os, h.tape, h.output, h.size, fun k hk => h.block k hk (by simp)⟩
theorem Kp.trans (h : Kp L w0 w1) (k : Kp M w1 w2) (hs : ∀ b ∈ M, b ∈ L ∨ w0.heap.size ≤ b) : Kp L w0 w2 :=
  ⟨k.os.trans h.os, k.tape.trans h.tape, k.output.trans h.output, Nat.le_trans h.size k.size, fun i hi hn =>
    (k.block i (Nat.lt_of_lt_of_le hi h.size) (fun hm => by rcases hs i hm with h1 | h1; exact hn h1; omega)).trans (h.block i hi hn)⟩
theorem Kp.more (h : Kp L w0 w1) (k : Below w1.heap.size w1 w2) : Kp L w0 w2 := h.trans (Kp.of_below k) (by simp)
theorem Kp.drew (h : Kp L w w1) : Kp L w w1.drew := ⟨h.os, h.tape, h.output, h.size, h.block⟩
theorem Kp.drewN (h : Kp L w w1) (n : Nat) : Kp L w (w1.drewN n) := ⟨h.os, h.tape, h.output, h.size, h.block⟩
theorem Kp.alloc (h : Kp L w w1) (x : Obj) : Kp L w (w1.alloc x) :=
  ⟨h.os, h.tape, h.output, by have := h.size; simp; omega, fun k hk hn => (Below.heap_alloc w1 x k (Nat.lt_of_lt_of_le hk h.size)).trans (h.block k hk hn)⟩
theorem Kp.setCell (h : Kp L w w1) (p : Addr) (u : Value) (hp : p.block ∈ L ∨ w.heap.size ≤ p.block) : Kp L w (w1.setCell p u) := by
  have e := (Below.refl 0 w1).setCell (p := p) (Nat.zero_le _) u
  refine ⟨e.os.trans h.os, e.tape.trans h.tape, e.output.trans h.output, Nat.le_trans h.size e.size, fun k hk hn => ?_⟩
  refine (Below.heap_setCell w1 p u k ?_).trans (h.block k hk hn)
  rintro rfl
  rcases hp with h1 | h1
  · exact hn h1
  · omega
theorem Kp.setCells (h : Kp L w w1) (b o : Nat) (vs : List Value) (hp : b ∈ L ∨ w.heap.size ≤ b) : Kp L w (w1.setCells b o vs) := by
  induction vs generalizing o w1 with
  | nil => exact h
  | cons v r ih => rw [World.setCells]; exact ih (h.setCell _ _ hp) _
theorem Kp.grown {row : Option Nat} (h : Kp L w w1) (hg : w1.grownBy w2 row) (hr : ∀ k, row = some k → k ∈ L ∨ w.heap.size ≤ k) : Kp L w w2 :=
  ⟨hg.os.trans h.os, hg.tape.trans h.tape, hg.output.trans h.output, Nat.le_trans h.size hg.size, fun k hk hn =>
    (hg.block k (Nat.lt_of_lt_of_le hk h.size) (fun e => by rcases hr k e.symm with h1 | h1; exact hn h1; omega)).trans (h.block k hk hn)⟩
theorem Kp.wider (h : Kp L w w1) (hs : ∀ b ∈ L, b ∈ M) : Kp M w w1 := ⟨h.os, h.tape, h.output, h.size, fun k hk hn => h.block k hk fun hl => hn (hs k hl)⟩
theorem Kp.cell (h : Kp L w w1) {a : Addr} {v : Value} (hc : w.cell? a = some v) (hn : a.block ∉ L) : w1.cell? a = some v :=
  (World.cell?_of_block (h.block a.block (World.block_lt_of_cell? w a hc) hn)).trans hc

theorem Kn.kp {b o : Nat} {v : Value} (h : Kn w b o v) (hk : Kp L w w1) (hn : b ∉ L) : Kn w1 b o v :=
  ⟨hk.cell h.1 hn, (World.frozen?_of_block (hk.block b h.lt hn)).trans h.2⟩
theorem Kn.set {b o : Nat} {v : Value} (h : Kn w b o v) (u : Value) : Kn (w.setCell ⟨b, o, none⟩ u) b o u :=
  ⟨World.cell?_setCell_same _ _ _ h.1, by rw [World.frozen?_setCell]; exact h.2⟩
theorem Kn.set_other {b o : Nat} {v : Value} (h : Kn w b o v) (p : Addr) (u : Value) (hne : p ≠ ⟨b, o, none⟩) : Kn (w.setCell p u) b o v :=
  ⟨(World.cell?_setCell_other _ _ _ _ hne).trans h.1, by rw [World.frozen?_setCell]; exact h.2⟩
theorem Kn.new' {cs : Array Value} {t : TypeId} {b j : Nat} {u : Value} (hb : b = w.heap.size) (h : cs[j]? = some u) : Kn (w.alloc (.cells cs t)) b j u := hb ▸ Kn.new h
theorem kn2 (w : World) (a b c d : Value) (t : TypeId) : Kn ((w.alloc (.cells #[a, b] t)).alloc (.cells #[c, d] t)).drew w.heap.size 0 a ∧ Kn ((w.alloc (.cells #[a, b] t)).alloc (.cells #[c, d] t)).drew w.heap.size 1 b ∧
    Kn ((w.alloc (.cells #[a, b] t)).alloc (.cells #[c, d] t)).drew (w.heap.size + 1) 0 c ∧ Kn ((w.alloc (.cells #[a, b] t)).alloc (.cells #[c, d] t)).drew (w.heap.size + 1) 1 d :=
  ⟨(Kn.new rfl).alloc _, (Kn.new rfl).alloc _, Kn.new' (by simp) rfl, Kn.new' (by simp) rfl⟩
theorem Kn.drew {b o : Nat} {v : Value} (h : Kn w b o v) : Kn w.drew b o v := h

/-! ### A slice that is read -/
/-- The slice v has n elements of k cells each; the cells are cs. -/
def Rd (w : World) (v : Value) (n k : Nat) (cs : List Value) : Prop :=
  ∃ ao cap, v = .slice ao n cap ∧ cs.length = n * k ∧ (0 < n → ∃ b o, ao = some ⟨b, o, none⟩ ∧ ∀ j u, cs[j]? = some u → w.cell? ⟨b, o + j, none⟩ = some u)
/-- .. none of whose cells lies in L. -/
def Rdx (L : List Nat) (v : Value) : Prop := ∀ a n cap, v = .slice (some a) n cap → 0 < n → a.block ∉ L
theorem Rdx.nil (v : Value) : Rdx [] v := fun _ _ _ _ _ => by simp

theorem Rd.kpx {v : Value} {n k : Nat} {cs : List Value} (h : Rd w v n k cs) (hk : Kp L w w1) (hx : Rdx L v) : Rd w1 v n k cs := by
  obtain ⟨ao, cap, rfl, hl, hc⟩ := h
  refine ⟨ao, cap, rfl, hl, fun hn => ?_⟩
  obtain ⟨b, o, rfl, hcc⟩ := hc hn
  exact ⟨b, o, rfl, fun j u hj => hk.cell (hcc j u hj) (show b ∉ L from hx ⟨b, o, none⟩ n cap rfl hn)⟩
theorem Rd.kp {v : Value} {n k : Nat} {cs : List Value} (h : Rd w v n k cs) (hk : Kp [] w w1) : Rd w1 v n k cs := h.kpx hk (Rdx.nil v)
theorem Rd.drew {v : Value} {n k : Nat} {cs : List Value} (h : Rd w v n k cs) : Rd w.drew v n k cs := h
theorem Rd.nil (w : World) (k : Nat) : Rd w (.slice none 0 0) 0 k [] := ⟨none, 0, rfl, by simp, fun h => absurd h (by omega)⟩
theorem Rd.of_owns {base n size : Nat} {e : TypeId} {v : Value} {xs : List Value} (h : w.ownsRow base e size v n xs) : Rd w v n size xs := by
  obtain ⟨hl, ⟨rfl, rfl⟩ | ⟨g, cap, cur, rfl, hb, hg, hcap, hmax, hsz, ht⟩⟩ := h
  · simp at hl; subst hl; exact Rd.nil w size
  · refine ⟨_, cap, rfl, hl, fun _ => ⟨g, 0, rfl, fun j u hj => ?_⟩⟩
    rw [Nat.zero_add, cell_of_row w g j cur e (0, 0) hg]
    rw [← ht, List.getElem?_take] at hj
    split at hj
    · simpa using hj
    · cases hj

/-! ### A row that is owned -/
theorem owns_kp {base n size : Nat} {e : TypeId} {v : Value} {xs : List Value} (h : w.ownsRow base e size v n xs) (hk : Kp L w w1) (hn : ∀ g, v.ownBlock = some g → g ∉ L) : w1.ownsRow base e size v n xs := by
  refine ⟨h.1, ?_⟩
  rcases h.2 with hN | ⟨g, cap, cur, rfl, hb, hgg, rest⟩
  · exact .inl hN
  · refine .inr ⟨g, cap, cur, rfl, hb, ?_, rest⟩
    rw [hk.block g (Array.getElem?_eq_some_iff.1 hgg).1 (hn g rfl)]
    exact hgg
theorem owns_ne_low {base n size c : Nat} {e : TypeId} {v : Value} {xs : List Value} (h : w.ownsRow base e size v n xs) (hc : c < base) : ∀ g, v.ownBlock = some g → g ≠ c := fun g hg => by
  have := (h.lt g hg).1; omega
end
end Go.Proofs.Ytaecjmjdhbjbkaa

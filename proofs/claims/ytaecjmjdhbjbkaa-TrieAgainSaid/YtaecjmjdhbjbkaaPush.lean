/-
  One element appended to a row that the call itself made.
-/
import Derived.Test.YtaecjmjdhbjbkaaCarry
import Derived.Deep.AppendLies
namespace Go.Proofs.Ytaecjmjdhbjbkaa
set_option linter.unusedVariables false
open Go.RowKit Go.Sort

/-- The slice type t has elements of type e, of k cells, of so many bytes. -/
def RowT (P : Program) (t e : TypeId) (k bytes : Nat) : Prop :=
  P.underlying t = some (.slice e) ∧ 0 < k ∧ ∃ i z, P.info? e = some i ∧ i.zero = some z ∧ i.size = k ∧ i.bytes = bytes ∧ z.cells.size = k
theorem RowT.of {P : Program} {t e : TypeId} {k bytes : Nat} {z : Value} (hu : P.underlying t = some (.slice e)) (h : (P.info? e).map (fun i => (i.zero, i.size, i.bytes)) = some (some z, k, bytes)) (hz : z.cells.size = k) (hk : 0 < k) : RowT P t e k bytes := by
  obtain ⟨i, h1, h2, h3, h4⟩ := info_parts h
  exact ⟨hu, hk, i, z, h1, h2, h3, h4, hz⟩

section
variable {P : Program} {t e : TypeId} {k bytes : Nat} {ops : Array Oper} {rest : List Oper} {o : Oper} {a : Act} {Q : Exit → Act → World → Prop}
theorem push1 (T : RowT P t e k bytes) (hgd : o.guard = none) (s x : Operand)
    (ho : o.op = .call { callee := .builtin .append, args := #[s, x], argTypes := #[t, t] })
    (w : World) (cs : Array Value) (et : TypeId) (base : Nat) (v : Value) (n : Nat) (xs : List Value) (hown : w.ownsRow base e k v n xs) (hs : a.eval s = v)
    (hx : a.eval x = .slice (some ⟨w.heap.size, 0, none⟩) 1 1) (hl : cs.size = k) (h1 : cs.all (·.oneCell') = true)
    (hbytes : n + 1 ≤ 2147483648) (hb2 : bytes ≤ 65536) (hbase : base ≤ w.heap.size)
    (h : ∀ v' w', w'.ownsRow base e k v' (n + 1) (xs ++ cs.toList) → Kp v.ownBlock.toList w w' → v' ≠ .slice none 0 0 → wpList P ops Q rest (a.put o.dst v') w') :
    wpList P ops Q (o :: rest) a (w.alloc (.cells cs et)) := by
  obtain ⟨hu, hk, i, z, hi, hz, hsz, hby, hzs⟩ := T
  refine wpList_append_own _ hgd s x t ho base e i z k bytes hu hi hz hsz hby hzs hk v n xs hs (hown.alloc _) ⟨w.heap.size, 0, none⟩ 1 1 cs.toList hx (by simp [hl]) ?_ ?_ ?_ ?_ ?_ ?_
  · intro j u hj
    have : (⟨w.heap.size, 0, none⟩ : Addr).add j = ⟨w.heap.size, j, none⟩ := by unfold Addr.add; split <;> simp_all
    rw [this]
    exact (Kn.new (by simpa using hj)).1
  · intro u hu; exact (Array.all_eq_true_iff_forall_mem.1 h1) u (by simpa using hu)
  · unfold maxLen; omega
  · have := Nat.mul_le_mul hbytes hb2; omega
  · simp; omega
  · intro v' w' h2 h3 h4
    refine h v' w' h2 ?_ ?_
    · refine Kp.grown ((Kp.refl _ w).alloc _) h3 ?_
      intro g hg; left; rw [hg]; simp
    · intro hn; have := (h4.1 hn).2; omega
/-- .. at a step of a region that draws its order. -/
theorem push1s {K : Act → World → Prop} {E : Prop} (T : RowT P t e k bytes) (hgd : o.guard = none) (s x : Operand)
    (ho : o.op = .call { callee := .builtin .append, args := #[s, x], argTypes := #[t, t] })
    (w : World) (cs : Array Value) (et : TypeId) (base : Nat) (v : Value) (n : Nat) (xs : List Value) (hown : w.ownsRow base e k v n xs) (hs : a.eval s = v)
    (H : Nat) (hx : a.eval x = .slice (some ⟨H, 0, none⟩) 1 1) (hH : w.heap.size = H) (hl : cs.size = k) (h1 : cs.all (·.oneCell') = true)
    (hbytes : n + 1 ≤ 2147483648) (hb2 : bytes ≤ 65536) (hbase : base ≤ w.heap.size)
    (h : ∀ v' w', w'.ownsRow base e k v' (n + 1) (xs ++ cs.toList) → Kp v.ownBlock.toList w w' → v' ≠ .slice none 0 0 → K (a.put o.dst v') w') :
    if Region.wanted o (yielded ops a.tmps) = true then Oper.wp P o a (w.alloc (.cells cs et)).drew K Q else E := by
  subst hH
  obtain ⟨hu, hk, i, z, hi, hz, hsz, hby, hzs⟩ := T
  refine step_append_lies (w.alloc (.cells cs et)).drew hgd s x t ho base e i z k bytes hu hi hz hsz hby hzs hk v n xs hs (hown.alloc _) ⟨w.heap.size, 0, none⟩ 1 1 cs.toList hx (by simp [hl]) ?_ ?_ (by omega) ?_ ?_ ?_ _ rfl ?_
  · intro j u hj
    have : (⟨w.heap.size, 0, none⟩ : Addr).add j = ⟨w.heap.size, j, none⟩ := by unfold Addr.add; split <;> simp_all
    rw [this]
    exact (Kn.new (by simpa using hj)).1
  · intro u hu; exact (Array.all_eq_true_iff_forall_mem.1 h1) u (by simpa using hu)
  · unfold maxLen; omega
  · have := Nat.mul_le_mul hbytes hb2; omega
  · show base ≤ (w.alloc (.cells cs et)).heap.size; simp; omega
  · intro g cap w' h2 h3 h4 h5
    refine h _ w' h2 ?_ (by simp)
    refine Kp.grown ((Kp.refl _ w).alloc _).drew h3 ?_
    intro g hg; left; rw [hg]; simp
end
theorem Kp.push {L : List Nat} {w0 w w1 : World} {base n k : Nat} {e : TypeId} {v : Value} {xs : List Value} (h : Kp L w0 w) (hown : w.ownsRow base e k v n xs) (hk : Kp v.ownBlock.toList w w1) (hb : w0.heap.size ≤ base) : Kp L w0 w1 := by
  refine h.trans hk ?_
  intro g hg
  right
  have := hown.lt g (by simpa using hg)
  omega
/-- A cell below the row's base stays. -/
theorem Kp.push_cell {w w1 : World} {base n k : Nat} {e : TypeId} {v u : Value} {xs : List Value} {a : Addr} (hk : Kp v.ownBlock.toList w w1) (hown : w.ownsRow base e k v n xs) (hc : w.cell? a = some u) (ha : a.block < base) : w1.cell? a = some u := by
  refine hk.cell hc ?_
  intro hg
  have := hown.lt _ (by simpa using hg)
  omega
theorem Kp.push_kn {w w1 : World} {base n k b o : Nat} {e : TypeId} {v u : Value} {xs : List Value} (hk : Kp v.ownBlock.toList w w1) (hown : w.ownsRow base e k v n xs) (hc : Kn w b o u) (ha : b < base) : Kn w1 b o u := by
  refine hc.kp hk ?_
  intro hg
  have := hown.lt _ (by simpa using hg)
  omega
end Go.Proofs.Ytaecjmjdhbjbkaa

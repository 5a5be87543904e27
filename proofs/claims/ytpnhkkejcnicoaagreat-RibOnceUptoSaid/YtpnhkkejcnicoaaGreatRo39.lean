/-
  Texts of a proof, one behind the other (part 40).
-/
import Derived.Test.YtpnhkkejcnicoaaGreatRo1
import Derived.Test.YtpnhkkejcnicoaaGreatRo6
import Derived.Test.YtpnhkkejcnicoaaGreatRo20
import Derived.Test.YtpnhkkejcnicoaaGreatRo28
import Derived.Test.YtpnhkkejcnicoaaGreatRo38
set_option linter.unusedVariables false
set_option linter.unusedSimpArgs false
namespace Go.Proofs.YtpnhkkejcnicoaaGreat.Ab
set_option linter.unusedVariables false
set_option maxRecDepth 100000
open Go.RowKit Go.Lib
def rteS : List Shp := [hU, hI, hC, hI, hI, hI, .st, hU, .bo]
theorem rd_rte (l : List Dat) (f : Fits rteS l) : ∃ x : Rte, okR x ∧ l = rteD x := by
  obtain ⟨d0, _, rfl, h0, f⟩ := fits_cons f
  obtain ⟨d1, _, rfl, h1, f⟩ := fits_cons f
  obtain ⟨d2, _, rfl, h2, f⟩ := fits_cons f
  obtain ⟨d3, _, rfl, h3, f⟩ := fits_cons f
  obtain ⟨d4, _, rfl, h4, f⟩ := fits_cons f
  obtain ⟨d5, _, rfl, h5, f⟩ := fits_cons f
  obtain ⟨d6, _, rfl, h6, f⟩ := fits_cons f
  obtain ⟨d7, _, rfl, h7, f⟩ := fits_cons f
  obtain ⟨d8, _, rfl, h8, f⟩ := fits_cons f
  obtain rfl := fits_nil f
  obtain ⟨x0, rfl, g0⟩ := rd_u h0
  obtain ⟨x1, rfl, g1⟩ := rd_i h1
  obtain ⟨x2, rfl, g2⟩ := rd_c h2
  obtain ⟨x3, rfl, g3⟩ := rd_i h3
  obtain ⟨x4, rfl, g4⟩ := rd_i h4
  obtain ⟨x5, rfl, g5⟩ := rd_i h5
  obtain ⟨x6, rfl⟩ := shd_st h6
  obtain ⟨x7, rfl, g7⟩ := rd_u h7
  obtain ⟨x8, rfl⟩ := shd_bo h8
  exact ⟨⟨⟨x0, x1⟩, x2, x3, x4, x5, x6, x7, x8⟩, ⟨g2, ok_pfx g0 g1⟩, rfl⟩
end Go.Proofs.YtpnhkkejcnicoaaGreat.Ab

namespace Go.Proofs.YtpnhkkejcnicoaaGreat.Ab
set_option linter.unusedVariables false
open Go.RowKit
section
variable {P : Program} {nt : Nat} {Q : Post} {e : Env} {h : Heap} {ops : Array Oper} {o : Oper} {rest : List Oper} {T : List Nat} {tab : TTab} {fuel i : Nat} {listed : Array Bool}
theorem E_appendD {t el : TypeId} {te te' : TE} {d : Option Tmp} {x y : Operand} {n m : Nat} {cy : AVal} {cs ds : List Dat} (TO : TabOk P tab) (ho : o.op = .call { callee := .builtin .append, args := #[x, y], argTypes := #[t, t] }) (hdst : o.dst = d)
    (ht : tlook tab t = some te) (hs : te.sh = .sl el) (hel : tlook tab el = some te') (hk : Nat.blt 0 te'.size = true) (hk2 : Nat.beq te'.zero.length te'.size = true) (hb : Nat.ble te'.bytes 65536 = true)
    (hx : aev e x = some (.full cs n)) (hcs : cs.length = n * te'.size) (hy : aev e y = some cy) (S : Src h cy m ds) (hm : 0 < m) (hl : ds.length = m * te'.size) (hn : n + m ≤ 2147483648) (hd : dstOk nt d = true) :
    AEff P nt T e h o (fun e' h' => e' = aput d (.d (.sl (cs ++ ds) (n + m))) e ∧ h' = h) := fun Pm F w0 pin ι a w R K Qx hK => by
  have hk' : 0 < te'.size := by simp [Nat.blt] at hk; omega
  obtain ⟨news, hnl, hnr, hsrc⟩ := S.cells R.heap (aev_rel R.env hy)
  have hone : ∀ u ∈ news, u.oneCell' = true := fun u hu => by
    obtain ⟨i, hi⟩ := List.mem_iff_getElem?.1 hu
    have hlt : i < ds.length := by rw [← hnl]; exact (List.getElem?_eq_some_iff.1 hi).1
    exact (hnr i ds[i] u (List.getElem?_eq_getElem hlt) hi).one
  have hsrc' : ∃ b o' c', a.eval y = .slice (some ⟨b, o', none⟩) m c' ∧ ∀ (j : Nat) (x : Value), news[j]? = some x → w.cell? ⟨b, o' + j, none⟩ = some x := by
    rcases hsrc with ⟨_, h2, _⟩ | ⟨_, h2, _⟩ | h1
    · omega
    · omega
    · exact h1
  have hxv := aev_rel R.env hx
  obtain ⟨ux, hux⟩ : ∃ ux, a.eval x = ux := ⟨_, rfl⟩
  rw [hux] at hxv
  cases hxv with
  | full _ _ b hD =>
  obtain ⟨olds, hol, hor, hold⟩ : ∃ olds : List Value, olds.length = cs.length ∧ (∀ (i : Nat) (c : Dat) (u : Value), cs[i]? = some c → olds[i]? = some u → DRel w (FreeB F ι) c u) ∧ ((b = none ∧ n = 0) ∨ ∃ ba, b = some ba ∧ ∀ (j : Nat) (x : Value), olds[j]? = some x → w.cell? (ba.add j) = some x) := by
    cases hD with
    | nil => exact ⟨[], rfl, by simp, .inl ⟨rfl, rfl⟩⟩
    | emp ea => exact ⟨[], rfl, by simp, .inr ⟨ea, rfl, fun j x hj => by simp at hj⟩⟩
    | sl _ _ b o cap vs hn hl hf hc hr => exact ⟨vs, hl, hr, .inr ⟨_, rfl, fun j x hj => by rw [add_lit0]; exact hc j x hj⟩⟩
  obtain ⟨v', w', hr, hown', hg⟩ := run_appF (P := P) (ty := o.type) w (TO t te ht) hs (TO el te' hel) hk' (Nat.eq_of_beq_eq_true hk2) b n olds (by rw [hol, hcs]) hold (a.eval y) m news hm (by rw [hnl, hl]) hsrc' hone hn (Nat.le_of_ble_eq_true hb)
  have G : Grew w w' := ⟨hg.os, hg.tape, hg.output, hg.size, fun r hr1 => hg.block r hr1 (by simp)⟩
  have hrun : (execOp a.eval o).run P w = .ok (.value v') w' := by
    simp [execOp, ho, resolve, invoke, builtin, hux, hr]
  have hDR : DRel w' (FreeB F ι) (.sl (cs ++ ds) (n + m)) v' := by
    rcases hown'.2 with ⟨_, h0⟩ | ⟨g, cap, cur, rfl, hge, hg2, hnc, _⟩
    · omega
    · refine .sl _ _ g 0 cap (olds ++ news) hnc (by simp [hol, hnl]) (fun _ => ⟨fun hF => ?_, fun id v hv hb2 => ?_⟩) (fun i u hu => ?_) fun i c u h1 h2 => ?_
      · have := R.heap.forb g hF
        have := R.heap.size
        omega
      · have := R.heap.lt hv hb2
        omega
      · have := hown'.cells (g := g) rfl i u hu
        rwa [Addr.add_mid] at this
      · rw [List.getElem?_append] at h1 h2
        rw [hol] at h2
        split at h1
        · rename_i hlt; rw [if_pos hlt] at h2; exact (hor _ _ _ h1 h2).ext (fun r hr _ => G.mem r hr) fun _ _ hf => hf
        · rename_i hlt; rw [if_neg hlt] at h2; exact (hnr _ _ _ h1 h2).ext (fun r hr _ => G.mem r hr) fun _ _ hf => hf
  unfold Oper.wp
  rw [hrun, Oper.upon_value, hdst]
  exact hK ι _ _ _ w' ⟨rfl, rfl⟩ ((R.grew G).put hd (.d _ _ hDR)) ⟨G.ct T, fun id _ v r h1 h2 _ => ⟨v, h1, h2⟩⟩ (put_defers _ _ _)
theorem T_appD {t el k n m d : Nat} {x y : Operand} {cy : AVal} {cs ds : List Dat} (TO : TabOk P tab) (hi : ops[i]? = some o) (hw : awant ops e o = some true) (hdst : o.dst = some d) (hd : Nat.blt d nt = true) (ho : o.op = .call { callee := .builtin .append, args := #[x, y], argTypes := #[t, t] })
    (hel : telem tab t = some el) (hsz : tsize tab el = some k) (hok : (match tlook tab el with | some te => Nat.blt 0 te.size && Nat.beq te.zero.length te.size && Nat.ble te.bytes 65536 | none => false) = true)
    (hx : aev e x = some (.full cs n)) (hy : aev e y = some cy) (S : Src h cy m ds) (hcs : cs.length = n * k) (hm : 0 < m) (hl : ds.length = m * k) (hn : n + m ≤ 2147483648)
    (HK : AAny P nt ops Q T fuel (listed.setIfInBounds i true) ((d, .d (.sl (cs ++ ds) (n + m))) :: e) h) : AAt P nt ops Q T fuel listed i e h := by
  obtain ⟨te, h1, h2⟩ := telem_spec hel
  obtain ⟨te', h3, rfl⟩ := tsize_spec hsz
  rw [h3] at hok
  simp only [Bool.and_eq_true] at hok
  exact T_eff hi hw (E_appendD TO ho hdst h1 h2 h3 hok.1.1 hok.1.2 hok.2 hx hcs hy S hm hl hn hd) fun e' h' ⟨h4, h5⟩ => by subst h4 h5; exact HK
end
end Go.Proofs.YtpnhkkejcnicoaaGreat.Ab

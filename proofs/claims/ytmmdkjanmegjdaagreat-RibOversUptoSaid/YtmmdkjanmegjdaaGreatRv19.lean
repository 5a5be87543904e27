/-
 Texts of a proof, one behind the other (part 20).
-/
import Derived.Test.YtmmdkjanmegjdaaGreatRv2
import Derived.Test.YtmmdkjanmegjdaaGreatRv4
import Derived.Test.YtmmdkjanmegjdaaGreatRv18
set_option linter.unusedVariables false
set_option linter.unusedSimpArgs false
namespace Go.Proofs.YtmmdkjanmegjdaaGreat.Ab
open Go.RowKit
section
variable {P : Program} {nt : Nat} {Q : Post} {e : Env} {h : Heap} {ops : Array Oper} {o : Oper} {rest : List Oper} {T : List Nat} {tab : TTab} {fuel i : Nat} {listed : Array Bool}
theorem T_cL {f : FuncId} {args : Array Operand} {ats : Array TypeId} {cs : List AVal} {c : AVal} {v : Value} {d : Nat} (hi : ops[i]? = some o) (hw : awant ops e o = some true) (hdst : o.dst = some d) (hd : Nat.blt d nt = true) (ho : o.op = .call { callee := .value (.func f), args := args, argTypes := ats }) (hx : aevs e args.toList = some cs)
  (H : ACall P f (cs.map (lendV h)) [] (fun c' h' => c' = c ∧ h' = [])) (hc : valA c = some v) (hrel : ∀ w F ι, VRel w F ι c v) (HK : AAny P nt ops Q T fuel (listed.setIfInBounds i true) ((d, c) :: e) h) : AAt P nt ops Q T fuel listed i e h :=
 za5 hi hw (zi9 ho hdst hx H hd hc hrel) fun e' h' ⟨h1, h2⟩ => by subst h1 h2; exact HK
theorem zi3 {t el el' k kk m rid d : Nat} {x y : Operand} {cs : List Dat} {n : Nat} {q : IntKind} {i : Int} (TO : TabOk P tab) (hw : awant ops e o = some true) (hdst : o.dst = some d) (hd : Nat.blt d nt = true) (ho : o.op = .slice t x none (some y) none) (hel : telem tab t = some el) (hsz : tsize tab el = some k)
  (hx : aev e x = some (.row rid)) (hb : look h rid = some (.row el' kk n cs)) (hy : aev e y = some (.d (.sc (.int q i)))) (hid : Nat.blt rid 1000 = true) (hi : i = (m : Int)) (hm : m ≤ n)
  (HK : AOps P nt ops Q rest ((d, .row rid) :: killE rid e) ((rid, .row el' kk m (cs.take (m * kk))) :: killH rid h)) : AOps P nt ops Q (o :: rest) e h := by
 obtain ⟨te, h1, h2⟩ := zy hel
 obtain ⟨te', h3, rfl⟩ := zu hsz
 subst hi
 exact zat (T := [rid]) hw (znT TO ho hdst h1 h2 h3 hx hb hy hm hid hd (by simp)) fun e' h' ⟨h4, h5⟩ => by subst h4 h5; exact HK
theorem ziY {t sT el k off1 n1 off2 n2 n id d c : Nat} {x y : Operand} {cs : List Dat} (TO : TabOk P tab) (hi : ops[i]? = some o) (hw : awant ops e o = some true) (hdst : o.dst = some d) (hd : Nat.blt d nt = true) (ho : o.op = .call { callee := .builtin .copy, args := #[x, y], argTypes := #[t, sT] })
  (hel : telem tab t = some el) (hsz : tsize tab el = some k) (hx : aev e x = some (.srow id off1 n1)) (hy : aev e y = some (.srow id off2 n2)) (hb : look h id = some (.row el k n cs)) (hT : T.contains id = true) (hc : Nat.min n2 n1 = c)
  (h1 : off1 + c * k ≤ n * k) (h2 : off2 + c * k ≤ n * k)
  (HK : AAny P nt ops Q T fuel (listed.setIfInBounds i true) ((d, .d (.sc (.int .i64 (c : Int)))) :: e) ((id, .row el k n (setW cs off1 (win cs off2 (c * k)))) :: h)) : AAt P nt ops Q T fuel listed i e h := by
 obtain ⟨te, h3, h4⟩ := zy hel
 obtain ⟨te', h5, rfl⟩ := zu hsz
 subst hc
 exact za5 hi hw (znW TO ho hdst h3 h4 h5 rfl hx hy hb h1 h2 hd hT) fun e' h' ⟨h6, h7⟩ => by subst h6 h7; exact HK
end
end Go.Proofs.YtmmdkjanmegjdaaGreat.Ab

namespace Go.Proofs.YtmmdkjanmegjdaaGreat.Ab
open Go.RowKit
section
variable {P : Program} {nt : Nat} {Q : Post} {e : Env} {h : Heap} {ops : Array Oper} {o : Oper} {rest : List Oper} {T : List Nat} {tab : TTab} {fuel i : Nat} {listed : Array Bool}
theorem znZ {f : FuncId} {args : Array Operand} {ats : Array TypeId} {cs0 cs : List AVal} {d : Option Tmp} {id j el k n el0 k0 n0 : Nat} {ds0 ds : List Dat} (ho : o.op = .call { callee := .value (.func f), args := args, argTypes := ats }) (hdst : o.dst = d) (hx : aevs e args.toList = some cs0)
  (hcs : cs.map (renV [(1000, id)]) = cs0) (hok : ∀ c ∈ cs, okV [(1000, id)] c = true) (hb : look h id = some (.row el0 k0 n0 ds0))
  (H : ACall P f cs [(1000, .row el0 k0 n0 ds0)] (fun c h' => c = .row j ∧ h' = [(j, .row el k n ds)])) (hid : Nat.blt id 1000 = true) (hd : dstOk nt d = true) (hT : T.contains id = true) :
  AEff P nt T e h o (fun e' h2 => e' = aput d (.row id) (killE id e) ∧ h2 = (id, .row el k n ds) :: killH id h) := fun Pm F w0 pin ι a w R K Qx hK => by
 have hid' : id < 1000 := by simp [Nat.blt] at hid; omega
 unfold Oper.wp
 rw [zbH H.1 ho, Oper.upon_enter, hdst]
 have HR := R.heap
 obtain ⟨v0, hv0, hB0⟩ := HR.blk id _ hb
 let ι0 : Nat → Option Value := fun p => if p = 1000 then ι id else none
 have h0some : ∀ p v, ι0 p = some v → ∃ i, look [(1000, id)] p = some i ∧ ι i = some v := fun p v hv => by
  simp only [ι0] at hv
  split at hv
  ·rename_i hp; subst hp; exact ⟨id, rfl, hv⟩
  ·cases hv
 have hlk : ∀ p i, look [(1000, id)] p = some i → p = 1000 ∧ i = id := fun p i hp => by
  by_cases h1 : 1000 = p
  ·subst h1; rw [ze] at hp; cases hp; exact ⟨rfl, rfl⟩
  ·rw [zc _ _ h1] at hp; cases hp
 let F' : Nat → Prop := fun r => F r ∨ ∃ i v, ι i = some v ∧ blockOf v = some r ∧ i ≠ id
 let Pm' : Nat → Prop := fun r => w.heap.size ≤ r ∨ blockOf v0 = some r
 have hFdown : ExtF w F ι w F' ι0 := ⟨fun _ _ _ => rfl, fun r _ hf => ⟨fun hc => hc.elim hf.1 fun ⟨i, v, h1, h2, _⟩ => hf.2 i v h1 h2, fun p v hv hb => by
  obtain ⟨i, _, h2⟩ := h0some p v hv
  exact hf.2 i v h2 hb⟩⟩
 have HC : HRel Pm' F' w ι0 ι0 [(1000, .row el0 k0 n0 ds0)] w := by
  refine ⟨fun p b hb2 => ?_, fun p v hv => ?_, fun p q v v' r hpq hv hv' hr => ?_, fun p v r hv hr => .inr ?_, rfl, rfl, rfl, Nat.le_refl _, fun _ _ _ => rfl, fun r hr => .inl hr, fun p v _ hv => hv, fun p v r hv hr hF' => ?_, fun r hr => ?_⟩
  ·by_cases h1 : 1000 = p
   ·subst h1
    rw [ze] at hb2
    cases hb2
    refine ⟨v0, by simp only [ι0, if_true]; exact hv0, ?_⟩
    obtain ⟨xs, hown, hxl, hxr⟩ := hB0
    exact ⟨xs, hown, hxl, fun i c u h3 h4 => (hxr i c u h3 h4).ext (fun _ _ _ => rfl) fun r hr hf => hFdown.free r hr hf⟩
   ·rw [zc _ _ h1] at hb2; cases hb2
  ·simp only [ι0] at hv
   split at hv
   ·rename_i hp; subst hp; exact ⟨_, ze _ _ _⟩
   ·cases hv
  ·simp only [ι0] at hv hv'
   split at hv <;> split at hv'
   ·omega
   ·cases hv'
   ·cases hv
   ·cases hv
  ·simp only [ι0] at hv
   split at hv
   ·rw [hv0] at hv; cases hv; exact hr
   ·cases hv
  ·obtain ⟨i, h1, h2⟩ := h0some p v hv
   obtain ⟨_, rfl⟩ := hlk p i h1
   rcases hF' with h3 | ⟨q, v', h3, h4, h5⟩
   ·exact HR.nf _ v r h2 hr h3
   ·exact HR.inj _ q v v' r (fun h => h5 h.symm) h2 h3 hr h4
  ·rcases hr with h1 | ⟨q, v, h1, h2, _⟩
   ·exact Nat.lt_of_lt_of_le (HR.forb r h1) HR.size
   ·exact HR.lt h1 h2
 have HA : ArgsRel w F' ι0 cs (args.map a.eval) := by
  have := zbD R.env hx
  refine ⟨by rw [this.1, ← hcs, List.length_map], fun i c u h1 h2 => (this.2 i (renV [(1000, id)] c) u (by rw [← hcs, List.getElem?_map, h1]; rfl) h2).down (hok c (List.mem_of_getElem? h1)) hFdown h0some⟩
 refine (H.2 Pm' F' w ι0 ι0 _ w HC HA).mono ?_
 rintro x w' ⟨u, c, h', ι', rfl, ⟨rfl, rfl⟩, hH, hv⟩
 obtain ⟨v', hv', xs, hown, hxl, hxr⟩ := hH.blk j _ (ze _ _ _)
 have hu : u = v' := by
  cases hv with
  | row _ _ _ h3 => exact h3 v' hv'
 subst hu
 have hpm : ∀ r, blockOf u = some r → w.heap.size ≤ r ∨ ∃ v, ι id = some v ∧ blockOf v = some r := fun r hr => by
  rcases hH.pm j u r hv' hr with h1 | h1
  ·exact .inl h1
  ·exact .inr ⟨v0, hv0, h1⟩
 have hkeep : ∀ r, r < w.heap.size → blockOf v0 ≠ some r → w'.heap[r]? = w.heap[r]? := fun r hr hn => hH.keep r hr fun hp => by
  rcases hp with h1 | h1
  ·omega
  ·exact hn h1
 have TT : Touch w ι id u w' := ⟨hH.os, hH.tape, hH.output, hH.size, fun r hr hn => hkeep r hr (hn v0 hv0), hpm⟩
 refine hK _ _ _ _ _ ⟨rfl, rfl⟩ ⟨R.heap.touch TT (.inl hid') ⟨xs, hown, hxl, fun i c u2 h1 h2 => (hxr i c u2 h1 h2).ext (fun _ _ _ => rfl) fun r hr hf => ⟨fun h3 => hf.1 (.inl h3), fun q v h3 h4 => ?_⟩⟩, (R.env.killed TT.ext).aput hd R.size (.row id _ (zf5 hown) fun v hv => by simp [upd] at hv; exact hv), by rw [zl]; exact R.defers.ext TT.ext, by rw [zac]; exact R.size⟩ ?_ (zl _ _ _)
 ·unfold upd at h3
  split at h3
  ·cases h3; exact hf.2 j u hv' h4
  ·rename_i hne; exact hf.1 (.inr ⟨q, v, h3, h4, hne⟩)
 ·refine ⟨⟨hH.os, hH.tape, hH.output, hH.size, fun r hr hne => hkeep r hr (hne id (List.contains_iff_mem.1 hT) v0 hv0)⟩, fun q _ u2 r hq hr1 hlt => ?_⟩
  unfold upd at hq
  split at hq
  ·rename_i hqi
   subst hqi
   cases hq
   rcases hpm r hr1 with h1 | ⟨v, h1, h2⟩
   ·omega
   ·exact ⟨v, h1, h2⟩
  ·exact ⟨u2, hq, hr1⟩
theorem O_cM {f : FuncId} {args : Array Operand} {ats : Array TypeId} {cs0 cs : List AVal} {d id j el k n el0 k0 n0 : Nat} {ds0 ds : List Dat} (hw : awant ops e o = some true) (hdst : o.dst = some d) (hd : Nat.blt d nt = true) (ho : o.op = .call { callee := .value (.func f), args := args, argTypes := ats }) (hx : aevs e args.toList = some cs0)
  (H : ACall P f cs [(1000, .row el0 k0 n0 ds0)] (fun c h' => c = .row j ∧ h' = [(j, .row el k n ds)])) (hcs : cs.map (renV [(1000, id)]) = cs0) (hok : ∀ c ∈ cs, okV [(1000, id)] c = true) (hb : look h id = some (.row el0 k0 n0 ds0)) (hid : Nat.blt id 1000 = true)
  (HK : AOps P nt ops Q rest ((d, .row id) :: killE id e) ((id, .row el k n ds) :: killH id h)) : AOps P nt ops Q (o :: rest) e h :=
 zat (T := [id]) hw (znZ (d := some d) ho hdst hx hcs hok hb H hid hd (by simp)) fun e' h' ⟨h1, h2⟩ => by subst h1 h2; exact HK
theorem zfN {p id el k n t : Nat} {cs : List Dat} (hid : Nat.blt id 1000 = true) (ht : look e t = some (.row p)) :
  AWk nt e [(p, .row el k n cs)] [(t, .row id)] [(id, .row el k n cs)] := fun Pm F w0 pin ι a w R => by
 have hid' : id < 1000 := by simp [Nat.blt] at hid; omega
 have H := R.heap
 obtain ⟨v, hv, xs, hown, hxl, hxr⟩ := H.blk p _ (ze _ _ _)
 have hι : ∀ i u, (fun i => if i = id then ι p else none) i = some u → i = id ∧ ι p = some u := fun i u hu => by
  dsimp only at hu
  split at hu
  ·rename_i h; exact ⟨h, hu⟩
  ·cases hu
 have hex : Ext w F ι w (fun i => if i = id then ι p else none) := ⟨fun _ _ _ => rfl, fun r _ hf => ⟨hf.1, fun i u hu => hf.2 p u (hι i u hu).2⟩⟩
 refine ⟨fun i => if i = id then ι p else none, ⟨fun i b hb => ?_, fun i u hu => ?_, fun i j u u' r hij hi hj => ?_, fun i u r hu => H.pm p u r (hι i u hu).2, H.os, H.tape, H.output, H.size, H.keep, H.fresh, fun i u h1 hu => ?_, fun i u r hu => H.nf p u r (hι i u hu).2, H.forb⟩, fun s c hs => ?_, R.defers.ext hex, R.size⟩
 ·by_cases h1 : id = i
  ·subst h1
   rw [ze] at hb
   cases hb
   exact ⟨v, by simp only [if_true]; exact hv, xs, hown, hxl, fun i c u h3 h4 => (hxr i c u h3 h4).ext (fun _ _ _ => rfl) fun r hr hf => hex.free r hr hf⟩
  ·rw [zc _ _ h1] at hb; cases hb
 ·obtain ⟨rfl, _⟩ := hι i u hu
  exact ⟨_, ze _ _ _⟩
 ·exact absurd ((hι i u hi).1.trans (hι j u' hj).1.symm) hij
 ·obtain ⟨rfl, _⟩ := hι i u hu
  omega
 ·by_cases h1 : t = s
  ·subst h1
   rw [ze] at hs
   cases hs
   obtain ⟨u, hu, hr⟩ := R.env t _ ht
   refine ⟨u, hu, ?_⟩
   cases hr with
   | row _ _ g1 g2 => exact .row id u g1 fun v2 hv2 => g2 v2 (hι id v2 hv2).2
  ·rw [zc _ _ h1] at hs; cases hs
theorem zdR {P : Program} {t el : TypeId} (w : World) (hu : P.underlying t = some (.slice el)) (dp : Nat) (b : Option Addr) (n c : Nat) : (Op.equalIn (dp + 1) t (.slice b n c) (.slice none 0 0)).run P w = .ok b.isNone w := by
 unfold Op.equalIn
 cases b <;> simp [run_underlying hu]
theorem znV {t u el : TypeId} {te : TE} {x : Operand} {d : Option Tmp} {cs : List Dat} {n : Nat} (TO : TabOk P tab) (ho : o.op = .binOp .eql t x (.const (.slice none 0 0)) u) (hdst : o.dst = d) (ht : tlook tab t = some te) (hs : te.sh = .sl el) (hx : aev e x = some (.d (.sl cs n))) (hd : dstOk nt d = true) :
  AEff P nt T e h o (fun e' h' => ∃ b : Bool, (b = true → cs = [] ∧ n = 0) ∧ e' = aput d (.d (.sc (.bool b))) e ∧ h' = h) := fun Pm F w0 pin ι a w R K Qx hK => by
 have hu := (TO t te ht).slice hs
 have hv := zj R.env hx
 have ev : a.eval (.const (.slice none 0 0)) = .slice none 0 0 := rfl
 have key : ∃ b : Bool, (b = true → cs = [] ∧ n = 0) ∧ (execOp a.eval o).run P w = .ok (.value (.bool b)) w := by
  generalize hau : a.eval x = ux at hv
  cases hv with
  | d _ _ hD =>
   cases hD with
   | nil => exact ⟨true, fun _ => ⟨rfl, rfl⟩, by simp only [execOp, ho, hau, ev, eqGuard, binOp, Op.equal]; rw [show Op.maxDepth = 9999 + 1 from rfl]; simp [zdR w hu 9999]⟩
   | sl _ _ b o2 cap vs => exact ⟨false, fun h => (by cases h), by simp only [execOp, ho, hau, ev, eqGuard, binOp, Op.equal]; rw [show Op.maxDepth = 9999 + 1 from rfl]; simp [zdR w hu 9999]⟩
   | emp ea => exact ⟨false, fun h => (by cases h), by simp only [execOp, ho, hau, ev, eqGuard, binOp, Op.equal]; rw [show Op.maxDepth = 9999 + 1 from rfl]; simp [zdR w hu 9999]⟩
 obtain ⟨b, hb, hrun⟩ := key
 unfold Oper.wp
 rw [hrun, Oper.upon_value, hdst]
 refine hK ι _ _ _ _ ⟨b, hb, rfl, rfl⟩ ⟨R.heap, R.env.aput hd R.size (zH rfl), by rw [zl]; exact R.defers, by rw [zac]; exact R.size⟩ ⟨CT.refl T ι w, fun id _ v r hv hr _ => ⟨v, hv, hr⟩⟩ (zl _ _ _)
theorem zi4 {t u el : TypeId} {x : Operand} {d : Nat} {cs : List Dat} {n : Nat} (TO : TabOk P tab) (hw : awant ops e o = some true) (hdst : o.dst = some d) (hd : Nat.blt d nt = true) (ho : o.op = .binOp .eql t x (.const (.slice none 0 0)) u) (hel : telem tab t = some el) (hx : aev e x = some (.d (.sl cs n)))
  (HK : ∀ b : Bool, (b = true → cs = [] ∧ n = 0) → AOps P nt ops Q rest ((d, .d (.sc (.bool b))) :: e) h) : AOps P nt ops Q (o :: rest) e h := by
 obtain ⟨te, h1, h2⟩ := zy hel
 exact zat (T := []) hw (znV (d := some d) TO ho hdst h1 h2 hx hd) fun e' h' ⟨b, h3, h4, h5⟩ => by subst h4 h5; exact HK b h3
end
end Go.Proofs.YtmmdkjanmegjdaaGreat.Ab

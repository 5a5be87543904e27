/-
 Texts of a proof, one behind the other (part 19).
-/
import Derived.ArgAppend
import Derived.Deep.AppendLies
import Derived.Laws.CopyRow
import Derived.Test.YtmmdkjanmegjdaaGreatRv2
import Derived.Test.YtmmdkjanmegjdaaGreatRv4
set_option linter.unusedVariables false
set_option linter.unusedSimpArgs false
namespace Go.Proofs.YtmmdkjanmegjdaaGreat.Ab
open Go.RowKit

section
variable {P : Program} {nt : Nat} {Q : Post} {e : Env} {h : Heap} {ops : Array Oper} {o : Oper} {rest : List Oper} {T : List Nat} {tab : TTab}
theorem HRel.relook {Pm F : Nat → Prop} {w0 w : World} {pin ι : Nat → Option Value} {h h' : Heap} (H : HRel Pm F w0 pin ι h w) (hs : ∀ j, look h' j = look h j) : HRel Pm F w0 pin ι h' w :=
 ⟨fun j b hj => H.blk j b (by rw [← hs]; exact hj), fun j v hj => by rw [hs]; exact H.dom j v hj, H.inj, H.pm, H.os, H.tape, H.output, H.size, H.keep, H.fresh, H.pinned, H.nf, H.forb⟩
theorem zec {t el : TypeId} {te te' : TE} (w' : World) (Ft : TFacts P t te) (hs : te.sh = .sl el) (Fe : TFacts P el te') (b : Option Addr) (n cap : Nat) (k : IntKind) (m : Nat) (hm : m ≤ n) :
  (Instr.sliceAt t (.slice b n cap) (some (.int k m)) none none).run P w' = .ok (.slice (if cap = m then b else b.map (·.add (m * te'.size))) (n - m) (cap - m)) w' := by
 have hu := Ft.slice hs
 have he : P.elem t = el := Ft.elem hs
 rw [run_sliceAt_slice (t := t) (h := by rw [he]; exact hu), run_slice_l (P := P) (w := w') (t := t) (a := b) (len := n) (cap := cap) (ht := by rw [he]; exact hu) (kl := k) (l := (m : Int)) (by omega) (by omega), he, Fe.size]
 simp only [Result.andThen, sliced, Int.toNat_natCast]
theorem zeI {t el : TypeId} {te te' : TE} (w' : World) (Ft : TFacts P t te) (hs : te.sh = .sl el) (Fe : TFacts P el te') (b : Option Addr) (hb : ∀ a, b = some a → a.add 0 = a) (n cap : Nat) (k k2 : IntKind) (m : Nat) (hm : m ≤ cap) :
  (Instr.sliceAt t (.slice b n cap) none (some (.int k m)) (some (.int k2 m))).run P w' = .ok (.slice b m m) w' := by
 have hu := Ft.slice hs
 have he : P.elem t = el := Ft.elem hs
 rw [run_sliceAt_slice (t := t) (h := by rw [he]; exact hu), run_slice_hm (P := P) (w := w') (t := t) (a := b) (len := n) (cap := cap) (ht := by rw [he]; exact hu) (kh := k) (km := k2) (h := (m : Int)) (m := (m : Int)) (by omega) (by omega) (by omega), he, Fe.size]
 simp only [Result.andThen, sliced, Int.toNat_natCast, Nat.zero_mul, Nat.sub_zero]
 congr 2
 split
 ·rfl
 ·cases b with
  | none => rfl
  | some a => simp [hb a rfl]
theorem zcI (g o j : Nat) : (⟨g, o, none⟩ : Addr).add j = ⟨g, o + j, none⟩ := by unfold Addr.add; split <;> simp_all

theorem za3 {t el el' k kk m id : Nat} {x y : Operand} {cs : List Dat} {n : Nat} {q : IntKind} {i : Int} (TO : TabOk P tab) (ho : o.op = .slice t x (some y) none none) (hel : telem tab t = some el) (hsz : tsize tab el = some k) (hx : aev e x = some (.row id)) (hb : look h id = some (.row el' kk n cs)) (hy : aev e y = some (.d (.sc (.int q i)))) (hi : i = (m : Int)) (hm : m ≤ n) :
  AYield P T e h o (.srow id (m * k) (n - m)) := by
 obtain ⟨te, h1, h2⟩ := zy hel
 obtain ⟨te', h3, rfl⟩ := zu hsz
 subst hi
 intro Pm F w0 pin ι a w H E
 obtain ⟨v, hv, xs, hown, _⟩ := H.blk id _ hb
 have hr := zj E hx
 have hk := (zQ (zj E hy)).1
 generalize hau : a.eval x = u at hr
 cases hr with
 | row _ _ g1 g2 =>
  have g3 := g2 v hv
  subst g3
  rcases hown.2 with ⟨rfl, h4⟩ | ⟨g, cap, cur, rfl, _, _, hnc, _⟩
  ·subst h4
   have : m = 0 := by omega
   subst this
   refine ⟨.slice none 0 0, .srow id _ _ _ rfl fun v' hv' => ⟨none, 0, rfl, by omega, fun h => by omega⟩, fun w' _ => ?_⟩
   simp only [execOp, ho, hau]; simp [hk]; rw [show (0 : Int) = ((0 : Nat) : Int) from rfl, zec w' (TO t te h1) h2 (TO el te' h3) none 0 0 q 0 (Nat.le_refl _)]; rfl
  ·refine ⟨_, .srow id _ _ (.slice (if cap = m then (some ⟨g, 0, none⟩) else some ⟨g, m * te'.size, none⟩) (n - m) (cap - m)) rfl fun v' hv' => ?_, fun w' _ => ?_⟩
   ·rw [hv] at hv'; cases hv'
    refine ⟨_, _, rfl, by omega, fun hpos => ⟨g, n, cap, rfl, ?_⟩⟩
    rw [if_neg (by omega)]
   ·simp only [execOp, ho, hau]; simp [hk]; rw [zec w' (TO t te h1) h2 (TO el te' h3) _ n cap q m hm]
    simp only [Option.map_some, zcI, Nat.zero_add]
    rfl
theorem zaN {t el k j id off n : Nat} {x y : Operand} {el' kk nn : Nat} {cs : List Dat} {q : IntKind} {i : Int} (TO : TabOk P tab) (ho : o.op = .indexAddr t x y) (hel : telem tab t = some el) (hsz : tsize tab el = some k) (hx : aev e x = some (.srow id off n)) (hb : look h id = some (.row el' kk nn cs)) (hy : aev e y = some (.d (.sc (.int q i)))) (hj : i = (j : Int)) (hlt : j < n) :
  AYield P T e h o (.eptr id (off + j * k)) := by
 obtain ⟨te, h1, h2⟩ := zy hel
 obtain ⟨te', h3, rfl⟩ := zu hsz
 subst hj
 intro Pm F w0 pin ι a w H E
 obtain ⟨v, hv, xs, hown, _⟩ := H.blk id _ hb
 have hr := zj E hx
 have hk := (zQ (zj E hy)).1
 have hu := (TO t te h1).slice h2
 generalize hau : a.eval x = u at hr
 cases hr with
 | srow _ _ _ _ g1 g2 =>
  obtain ⟨b', c', rfl, _, g3⟩ := g2 v hv
  obtain ⟨g, N, cap, rfl, rfl⟩ := g3 (by omega)
  refine ⟨.pointer (some ⟨g, off + j * te'.size, none⟩), .eptr id _ _ rfl fun v' hv' => ?_, fun w' _ => ?_⟩
  ·rw [hv] at hv'; cases hv'; exact ⟨g, N, cap, rfl, rfl⟩
  ·simp [execOp, ho, hau, hk, zbt w' hu (TO el te' h3) g off n c' q (j : Int) ⟨by omega, by omega⟩]
theorem zd9 {t el id off n : Nat} {x : Operand} {el' kk nn : Nat} {cs : List Dat} (TO : TabOk P tab) (ho : o.op = .call { callee := .builtin .len, args := #[x], argTypes := #[t] }) (hel : telem tab t = some el) (hx : aev e x = some (.srow id off n)) (hb : look h id = some (.row el' kk nn cs)) : AYield P T e h o (.d (.sc (.int .i64 (n : Int)))) := by
 obtain ⟨te, h1, h2⟩ := zy hel
 intro Pm F w0 pin ι a w H E
 obtain ⟨v, hv, xs, hown, _⟩ := H.blk id _ hb
 have hu := (TO t te h1).slice h2
 have hr := zj E hx
 generalize hau : a.eval x = u at hr
 cases hr with
 | srow _ _ _ _ g1 g2 =>
  obtain ⟨b', c', rfl, _, g3⟩ := g2 v hv
  exact ⟨_, zH rfl, fun w' _ => by simp [execOp, ho, resolve, invoke, builtin, hau, Builtin.len_, run_underlying hu, goInt]⟩
theorem zpi {t el k : Nat} {x y z : Operand} {cs : List Dat} {n : Nat} {q q2 : IntKind} {i j : Int} (TO : TabOk P tab) (ho : o.op = .slice t x none (some y) (some z)) (hel : telem tab t = some el) (hsz : tsize tab el = some k) (hx : aev e x = some (.d (.sl cs n))) (hy : aev e y = some (.d (.sc (.int q i)))) (hz : aev e z = some (.d (.sc (.int q2 j)))) (hi : i = (n : Int)) (hj : j = (n : Int)) :
  AYield P T e h o (.full cs n) := by
 obtain ⟨te, h1, h2⟩ := zy hel
 obtain ⟨te', h3, rfl⟩ := zu hsz
 subst hi hj
 refine zN _ fun w F ι a E => ?_
 have hv := zj E hx
 have hk := (zQ (zj E hy)).1
 have hk2 := (zQ (zj E hz)).1
 generalize hau : a.eval x = u at hv
 cases hv with
 | d _ _ hd =>
  cases hd with
  | nil => exact ⟨_, .full [] 0 none .nil, fun w' => by simp only [execOp, ho, hau]; simp [hk, hk2]; rw [show (0 : Int) = ((0 : Nat) : Int) from rfl, zeI w' (TO t te h1) h2 (TO el te' h3) none (fun a h => by cases h) 0 0 q q2 0 (Nat.le_refl _)]; rfl⟩
  | emp ea => exact ⟨_, .full [] 0 _ (.emp ea), fun w' => by simp only [execOp, ho, hau]; simp [hk, hk2]; rw [show (0 : Int) = ((0 : Nat) : Int) from rfl, zeI w' (TO t te h1) h2 (TO el te' h3) (some ea) (fun a h => rfl) 0 0 q q2 0 (Nat.le_refl _)]; rfl⟩
  | sl _ _ b off cap vs hn hl hf hc hr =>
   exact ⟨_, .full cs n _ (.sl cs n b off n vs (Nat.le_refl _) hl hf hc hr), fun w' => by simp only [execOp, ho, hau]; simp [hk, hk2]; rw [zeI w' (TO t te h1) h2 (TO el te' h3) _ (fun a h => by cases h; exact add0 _ _) n cap q q2 n hn]; rfl⟩

theorem znT {t el : TypeId} {te te' : TE} {d : Option Tmp} {x y : Operand} {rid n m : Nat} {cs : List Dat} {q : IntKind} {el' kk : Nat} (TO : TabOk P tab) (ho : o.op = .slice t x none (some y) none) (hdst : o.dst = d)
  (ht : tlook tab t = some te) (hs : te.sh = .sl el) (hel : tlook tab el = some te') (hx : aev e x = some (.row rid)) (hb : look h rid = some (.row el' kk n cs)) (hy : aev e y = some (.d (.sc (.int q (m : Int))))) (hm : m ≤ n) (hid : Nat.blt rid 1000 = true) (hd : dstOk nt d = true) (hT : T.contains rid = true) :
  AEff P nt T e h o (fun e' h' => e' = aput d (.row rid) (killE rid e) ∧ h' = (rid, .row el' kk m (cs.take (m * kk))) :: killH rid h) := fun Pm F w0 pin ι a w R K Qx hK => by
 have hid' : rid < 1000 := by simp [Nat.blt] at hid; omega
 obtain ⟨v, hv, xs, hown, hxl, hxr⟩ := R.heap.blk _ _ hb
 have hr := zj R.env hx
 have hk := (zQ (zj R.env hy)).1
 obtain ⟨b, N, cap, hvv, hN, hadd⟩ : ∃ b N cap, v = .slice b N cap ∧ m ≤ cap ∧ ∀ a, b = some a → a.add 0 = a := by
  rcases hown.2 with ⟨h1, h2⟩ | ⟨g, cap, cur, h1, _, _, h2, _⟩
  ·exact ⟨none, 0, 0, h1, by omega, fun a h => by cases h⟩
  ·exact ⟨_, _, cap, h1, by omega, fun a h => by cases h; exact add0 _ _⟩
 have hval : a.eval x = v := by
  generalize a.eval x = u at hr
  cases hr with
  | row _ _ g1 g2 => exact g2 v hv
 have hlen : (xs.take (m * kk)).length = m * kk := by rw [List.length_take, hown.1]; exact Nat.min_eq_left (Nat.mul_le_mul_right kk hm)
 have hown' : w.ownsRow 0 el' kk (.slice b m cap) m (xs.take (m * kk)) := by
  refine ⟨hlen, ?_⟩
  rcases hown.2 with ⟨h1, h2⟩ | ⟨g, cap2, cur, h1, g2, g3, g4, g5, g6, g7⟩
  ·rw [hvv] at h1; cases h1; exact .inl ⟨by rw [show m = 0 by omega], by omega⟩
  ·rw [hvv] at h1; cases h1
   refine .inr ⟨g, cap, cur, rfl, g2, g3, hN, g5, g6, ?_⟩
   rw [← g7, List.take_take, Nat.min_eq_left (Nat.mul_le_mul_right kk hm)]
 have hblk : blockOf (.slice b m cap) = blockOf v := by subst hvv; cases b <;> rfl
 have TT : Touch w ι rid (.slice b m cap) w := ⟨rfl, rfl, rfl, Nat.le_refl _, fun r _ _ => rfl, fun r hr1 => .inr ⟨v, hv, by rw [← hblk]; exact hr1⟩⟩
 have hrun : (execOp a.eval o).run P w = .ok (.value (.slice b m cap)) w := by
  simp only [execOp, ho, hval, hvv, Option.map_some, Option.map_none, hk]
  simp
  rw [zcQ w (TO t te ht) hs (TO el te' hel) b hadd N cap q m hN]
  rfl
 unfold Oper.wp
 rw [hrun, Oper.upon_value, hdst]
 refine hK _ _ _ _ _ ⟨rfl, rfl⟩ ⟨R.heap.touch TT (.inl hid') ⟨xs.take (m * kk), hown', by rw [List.length_take, List.length_take, hxl], fun i c u h1 h2 => ?_⟩, (R.env.killed TT.ext).aput hd R.size (.row rid _ (zf5 hown') fun v hv => by simp [upd] at hv; exact hv), by rw [zl]; exact R.defers.ext TT.ext, by rw [zac]; exact R.size⟩ ?_ (zl _ _ _)
 ·rw [List.getElem?_take] at h1 h2
  split at h1
  ·rename_i hlt
   rw [if_pos hlt] at h2
   exact (hxr _ _ _ h1 h2).ext TT.ext.mem TT.ext.free
  ·cases h1
 ·refine ⟨⟨rfl, rfl, rfl, Nat.le_refl _, fun r _ _ => rfl⟩, fun j _ u r hj hr1 hlt => ?_⟩
  unfold upd at hj
  split at hj
  ·rename_i hjr
   subst hjr
   cases hj
   exact ⟨v, hv, by rw [← hblk]; exact hr1⟩
  ·exact ⟨u, hj, hr1⟩

theorem zfs {P : Program} (w : World) (dT sT ty elem : TypeId) (k : Nat) (g o dLen dCap : Nat) (a : Addr) (sLen sCap : Nat) (cur : Array Value) (t : TypeId) (cs : List Value)
  (hu : P.underlying dT = some (.slice elem)) (hs : (P.info? elem).map (·.size) = some k)
  (hg : w.heap[g]? = some (.cells cur t (0, 0))) (hn : cs.length = Nat.min sLen dLen * k)
  (hsrc : ∀ j v, cs[j]? = some v → w.cell? (a.add j) = some v) (hfit : o + cs.length ≤ cur.size) (h1 : ∀ v ∈ cs, v.oneCell' = true) :
  (Builtin.copy_ #[dT, sT] ty #[.slice (some ⟨g, o, none⟩) dLen dCap, .slice (some a) sLen sCap]).run P w =
   .ok (goInt (Nat.min sLen dLen)) (w.setRow g (setW cur.toList o cs).toArray) := by
 have hl := run_loadCells_list (P := P) w a cs hsrc
 have hst := run_storeCells_at P g o t cs 0 cur w hg (by simpa using hfit) h1
 cases hq : P.info? elem with
 | none => simp [hq] at hs
 | some i =>
  have hi : i.size = k := by simpa [hq] using hs
  simp [Builtin.copy_, run_underlying hu, Builtin.lenOf, Builtin.firstCells, sizeOf, typeInfo, hq, hi, ← hn, hl, hst, setW]
theorem zeJ {P : Program} (w : World) (dT sT ty elem : TypeId) (k : Nat) (d a : Option Addr) (dLen dCap sLen sCap : Nat) (hu : P.underlying dT = some (.slice elem)) (hs : (P.info? elem).map (·.size) = some k) (hn : Nat.min sLen dLen = 0) :
  (Builtin.copy_ #[dT, sT] ty #[.slice d dLen dCap, .slice a sLen sCap]).run P w = .ok (goInt 0) w := by
 cases hq : P.info? elem with
 | none => simp [hq] at hs
 | some i =>
  have hl : ∀ (x : Addr), (loadCells x 0).run P w = .ok #[] w := fun x => by simpa using run_loadCells_list (P := P) w x [] (by simp)
  cases d <;> cases a <;> simp [Builtin.copy_, run_underlying hu, Builtin.lenOf, Builtin.firstCells, sizeOf, typeInfo, hq, hn, storeCells, hl]
theorem win_get' {α : Type} (cs : List α) (off k j : Nat) (hj : j < k) : (win cs off k)[j]? = cs[off + j]? := by
 unfold win
 rw [List.getElem?_take_of_lt hj, List.getElem?_drop]
theorem zcO {α : Type} (cs : List α) (off k : Nat) (h : off + k ≤ cs.length) : (win cs off k).length = k := by
 unfold win
 rw [List.length_take, List.length_drop]; omega
theorem zeG {α : Type} (cs : List α) (off : Nat) : setW cs off [] = cs := by unfold setW; simp
theorem zbe {α : Type} (cs xs : List α) (off : Nat) (h : off + xs.length ≤ cs.length) : (setW cs off xs).length = cs.length := by
 unfold setW
 simp; omega
theorem zf4 {w : World} {e k n g cap off : Nat} {cur : Array Value} {xs news : List Value} (hg : w.heap[g]? = some (.cells cur e (0, 0))) (hlen : xs.length = n * k) (hcap : n ≤ cap) (hmax : cap ≤ maxLen) (hsz : cur.size = cap * k) (ht : cur.toList.take (n * k) = xs) (hfit : off + news.length ≤ n * k) :
  (w.setRow g (setW cur.toList off news).toArray).ownsRow 0 e k (.slice (some ⟨g, 0, none⟩) n cap) n (setW xs off news) := by
 have hle : n * k ≤ cur.size := by rw [hsz]; exact Nat.mul_le_mul_right k hcap
 have h1 := setRow_heap w g cur (setW cur.toList off news).toArray e (0, 0) hg
 refine ⟨by rw [zbe _ _ _ (by omega), hlen], .inr ⟨g, cap, _, rfl, Nat.zero_le _, h1, hcap, hmax, ?_, ?_⟩⟩
 ·rw [List.size_toArray, zbe _ _ _ (by rw [Array.length_toList (xs := cur)]; omega), Array.length_toList, hsz]
 ·rw [List.toList_toArray, ← ht]
  apply List.ext_getElem?
  intro i
  by_cases hi : i < n * k
  ·rw [List.getElem?_take_of_lt hi, zak (by rw [Array.length_toList (xs := cur)]; omega), zak (by rw [List.length_take, Array.length_toList (xs := cur)]; omega), List.getElem?_take_of_lt hi]
  ·rw [List.getElem?_eq_none (by rw [List.length_take]; omega), List.getElem?_eq_none (by rw [zbe _ _ _ (by rw [List.length_take, Array.length_toList (xs := cur)]; omega), List.length_take]; omega)]
theorem znW {t sT el : TypeId} {te te' : TE} {d : Option Tmp} {x y : Operand} {id off1 n1 off2 n2 n k : Nat} {cs : List Dat} (TO : TabOk P tab) (ho : o.op = .call { callee := .builtin .copy, args := #[x, y], argTypes := #[t, sT] }) (hdst : o.dst = d)
  (ht : tlook tab t = some te) (hs : te.sh = .sl el) (hel : tlook tab el = some te') (hk : te'.size = k) (hx : aev e x = some (.srow id off1 n1)) (hy : aev e y = some (.srow id off2 n2)) (hb : look h id = some (.row el k n cs))
  (h1 : off1 + Nat.min n2 n1 * k ≤ n * k) (h2 : off2 + Nat.min n2 n1 * k ≤ n * k) (hd : dstOk nt d = true) (hT : T.contains id = true) :
  AEff P nt T e h o (fun e' h' => e' = aput d (.d (.sc (.int .i64 ((Nat.min n2 n1 : Nat) : Int)))) e ∧ h' = (id, .row el k n (setW cs off1 (win cs off2 (Nat.min n2 n1 * k)))) :: h) := fun Pm F w0 pin ι a w R K Qx hK => by
 subst hk
 obtain ⟨v, hv, xs, hown, hxl, hxr⟩ := R.heap.blk _ _ hb
 have hu := (TO t te ht).slice hs
 have hsz : (P.info? el).map (·.size) = some te'.size := by
  obtain ⟨z, _, _, i, hi, _, hsz, _⟩ := (TO el te' hel).zero w
  rw [hi]; simp [hsz]
 have hrx := zj R.env hx
 have hry := zj R.env hy
 have hcl : cs.length = n * te'.size := by rw [← hxl]; exact hown.1
 obtain ⟨ux, hux⟩ : ∃ ux, a.eval x = ux := ⟨_, rfl⟩
 obtain ⟨uy, huy⟩ : ∃ uy, a.eval y = uy := ⟨_, rfl⟩
 rw [hux] at hrx
 rw [huy] at hry
 cases hrx with
 | srow _ _ _ _ g1 g2 =>
 cases hry with
 | srow _ _ _ _ g3 g4 =>
  obtain ⟨b1, c1, rfl, _, k1⟩ := g2 v hv
  obtain ⟨b2, c2, rfl, _, k2⟩ := g4 v hv
  by_cases h0 : Nat.min n2 n1 = 0
  ·have hrun : (execOp a.eval o).run P w = .ok (.value (goInt 0)) w := by
    simp [execOp, ho, resolve, invoke, builtin, hux, huy, zeJ w t sT o.type el te'.size b1 b2 n1 c1 n2 c2 hu hsz h0]
   unfold Oper.wp
   rw [hrun, Oper.upon_value, hdst]
   refine hK ι _ _ _ _ ⟨rfl, rfl⟩ ?_ ⟨CT.refl T ι w, fun id _ v r hv hr _ => ⟨v, hv, hr⟩⟩ (zl _ _ _)
   rw [h0]
   refine ⟨?_, R.env.aput hd R.size (zH rfl), by rw [zl]; exact R.defers, by rw [zac]; exact R.size⟩
   have e1 : setW cs off1 (win cs off2 (0 * te'.size)) = cs := by unfold win; rw [Nat.zero_mul, List.take_zero]; exact zeG _ _
   rw [e1]
   refine R.heap.relook fun j => ?_
   by_cases hj2 : id = j
   ·subst hj2; rw [ze, hb]
   ·rw [zc _ _ hj2]
  ·have hm1 : 0 < n1 := by have e : Nat.min n2 n1 = min n2 n1 := rfl; omega
   have hm2 : 0 < n2 := by have e : Nat.min n2 n1 = min n2 n1 := rfl; omega
   obtain ⟨g, N, cap, hvv, rfl⟩ := k1 hm1
   obtain ⟨g', N', cap', hvv2, rfl⟩ := k2 hm2
   rw [hvv] at hvv2; cases hvv2
   rcases hown.2 with ⟨q1, _⟩ | ⟨g0, cap0, cur, q1, _, hg, q4, q5, q6, q7⟩
   ·rw [hvv] at q1; cases q1
   rw [hvv] at q1; cases q1
   have hle : n * te'.size ≤ cur.size := by rw [q6]; exact Nat.mul_le_mul_right _ q4
   have hwl : (win cur.toList off2 (Nat.min n2 n1 * te'.size)).length = Nat.min n2 n1 * te'.size := zcO _ _ _ (by rw [Array.length_toList (xs := cur)]; omega)
   have hcell : ∀ j v, (win cur.toList off2 (Nat.min n2 n1 * te'.size))[j]? = some v → w.cell? ((⟨g, off2, none⟩ : Addr).add j) = some v := fun j v hj => by
    have hjl : j < Nat.min n2 n1 * te'.size := by rw [← hwl]; exact (List.getElem?_eq_some_iff.1 hj).1
    rw [win_get' _ _ _ _ hjl, Array.getElem?_toList] at hj
    rw [zcI, cell_of_row w g (off2 + j) cur el (0, 0) hg]
    exact hj
   have hxw : win cur.toList off2 (Nat.min n2 n1 * te'.size) = win xs off2 (Nat.min n2 n1 * te'.size) := by
    rw [← q7]
    apply List.ext_getElem?
    intro i
    by_cases hi : i < Nat.min n2 n1 * te'.size
    ·rw [win_get' _ _ _ _ hi, win_get' _ _ _ _ hi, List.getElem?_take_of_lt (by omega)]
    ·rw [List.getElem?_eq_none (by omega), List.getElem?_eq_none (by rw [zcO _ _ _ (by rw [List.length_take, Array.length_toList (xs := cur)]; omega)]; omega)]
   have hone : ∀ u ∈ win cur.toList off2 (Nat.min n2 n1 * te'.size), u.oneCell' = true := fun u hu => by
    rw [hxw] at hu
    obtain ⟨i, hi⟩ := List.mem_iff_getElem?.1 hu
    have hlt : i < Nat.min n2 n1 * te'.size := by
     have := (List.getElem?_eq_some_iff.1 hi).1
     rw [zcO _ _ _ (by rw [hown.1]; omega)] at this
     exact this
    rw [win_get' _ _ _ _ hlt] at hi
    have hlt2 : off2 + i < cs.length := by rw [← hxl]; exact (List.getElem?_eq_some_iff.1 hi).1
    exact (hxr _ _ _ (List.getElem?_eq_getElem hlt2) hi).one
   have hrun0 := zfs (P := P) w t sT o.type el te'.size g off1 n1 c1 ⟨g, off2, none⟩ n2 c2 cur el _ hu hsz hg hwl hcell (by rw [hwl]; omega) hone
   have hrun : (execOp a.eval o).run P w = .ok (.value (goInt (Nat.min n2 n1))) (w.setRow g (setW cur.toList off1 (win cur.toList off2 (Nat.min n2 n1 * te'.size))).toArray) := by
    simp only [execOp, ho, resolve, invoke, builtin]
    simp [hux, huy, hrun0]
   obtain ⟨hW, hnew⟩ := zaZ (C' := (setW cur.toList off1 (win cur.toList off2 (Nat.min n2 n1 * te'.size))).toArray) hg (v := v) (by rw [hvv]; rfl)
   have hown2 := zf4 (off := off1) (news := win cur.toList off2 (Nat.min n2 n1 * te'.size)) hg hown.1 q4 q5 q6 q7 (by rw [hwl]; exact h1)
   unfold Oper.wp
   rw [hrun, Oper.upon_value, hdst]
   refine hK ι _ _ _ _ ⟨rfl, rfl⟩ ?_ ⟨⟨hW.os, hW.tape, hW.output, hW.size, fun r hr hne => hW.mem r hr fun he => hne id (List.contains_iff_mem.1 hT) v hv he⟩, fun id _ v r hv hr _ => ⟨v, hv, hr⟩⟩ (zl _ _ _)
   refine ⟨R.heap.wrote hW hv ⟨_, by rw [hvv]; exact hown2, by rw [zbe _ _ _ (by rw [hwl, hown.1]; omega), zbe _ _ _ (by rw [zcO _ _ _ (by omega)]; omega), hxl], fun i c u h4 h5 => ?_⟩, (R.env.mono fun _ _ _ _ hv' => hv'.wrote hW hv).aput hd R.size (zH rfl), by rw [zl]; exact R.defers.ext (hW.ext hv), by rw [zac]; exact R.size⟩
   rw [zak (by rw [zcO _ _ _ (by omega)]; omega), zcO _ _ _ (by omega)] at h4
   rw [zak (by rw [hwl, hown.1]; omega), hwl] at h5
   split at h4
   ·rename_i hin
    rw [if_pos hin] at h5
    rw [hxw] at h5
    rw [win_get' _ _ _ _ (by omega)] at h4 h5
    exact (hxr _ _ _ h4 h5).ext (hW.ext hv).mem (hW.ext hv).free
   ·rename_i hin
    rw [if_neg hin] at h5
    exact (hxr _ _ _ h4 h5).ext (hW.ext hv).mem (hW.ext hv).free

theorem zkI {P : Program} {t el : TypeId} {te te' : TE} {ty : TypeId} (w : World) (Ft : TFacts P t te) (hs : te.sh = .sl el) (Fe : TFacts P el te') (hk : 0 < te'.size) (hk2 : te'.zero.length = te'.size) (b : Option Addr) (n : Nat) (olds : List Value)
  (hol : olds.length = n * te'.size) (hold : (b = none ∧ n = 0) ∨ ∃ ba, b = some ba ∧ ∀ (j : Nat) (x : Value), olds[j]? = some x → w.cell? (ba.add j) = some x) (u : Value) (m : Nat) (news : List Value) (hm : 0 < m)
  (hl : news.length = m * te'.size) (hu : ∃ b o' c', u = .slice (some ⟨b, o', none⟩) m c' ∧ ∀ (j : Nat) (x : Value), news[j]? = some x → w.cell? ⟨b, o' + j, none⟩ = some x)
  (h1 : ∀ x ∈ news, x.oneCell' = true) (hn : n + m ≤ 2147483648) (hb : te'.bytes ≤ 65536) :
  ∃ v' w', (Builtin.append_ #[t, t] ty #[.slice b n n, u]).run P w = .ok v' w' ∧ w'.ownsRow w.heap.size el te'.size v' (n + m) (olds ++ news) ∧ w.grownBy w' none := by
 have hut := Ft.slice hs
 obtain ⟨z, _, hz2, i, hi, hz3, hsz, hby⟩ := Fe.zero w
 have hzs : z.cells.size = te'.size := by rw [← Array.length_toList, hz2, hk2]
 have hbb : (n + m) * te'.bytes ≤ 140737488355328 := by have := Nat.mul_le_mul hn hb; omega
 obtain ⟨b2, o', c', rfl, hc⟩ := hu
 rcases hold with ⟨rfl, rfl⟩ | ⟨ba, rfl, hco⟩
 ·have hnil : olds = [] := by simpa using hol
  subst hnil
  obtain ⟨v', w', hr, h2, h3, _, h5⟩ := run_append_own_at (P := P) w w.heap.size t ty el i z te'.size te'.bytes hut hi hz3 hsz hby hzs hk (.slice none 0 0) 0 [] (World.ownsRow_nil _ _ _ _) ⟨b2, o', none⟩ m c' news hl
   (fun j x hj => by rw [Addr.add_mid]; exact hc j x hj) h1 (by unfold maxLen; omega) hbb (Nat.le_refl _)
  exact ⟨v', w', hr, h2, h3⟩
 ·exact run_append_arg_grows (P := P) w t ty el i z te'.size te'.bytes hut hi hz3 hsz hby hzs hk ba n n olds hol (fun j x hj => hco j x hj) ⟨b2, o', none⟩ m c' news hl
   (fun j x hj => by rw [zcI]; exact hc j x hj) (by omega) (by unfold maxLen; omega) hbb
end
end Go.Proofs.YtmmdkjanmegjdaaGreat.Ab

namespace Go.Proofs.YtmmdkjanmegjdaaGreat.Ab
open Go.RowKit Go.Builtin
theorem zc2 {z : Array Value} (h : ∀ v ∈ z.toList, v.oneCell' = true) (n : Nat) : ∀ v ∈ (zeroCells z n).toList, v.oneCell' = true := by
  intro v hv
  unfold zeroCells at hv
  rw [Array.toList_map, List.mem_map] at hv
  obtain ⟨i, hi, rfl⟩ := hv
  have hi2 : i < n * z.size := by simpa using hi
  have hp : 0 < z.size := by rcases Nat.eq_zero_or_pos z.size with h0 | h0; · rw [h0] at hi2; omega
                             · exact h0
  rw [getElem!_pos z (i % z.size) (Nat.mod_lt _ hp)]
  exact h _ (by simp)
theorem zc3 (z : Array Value) (n : Nat) : (zeroCells z n).toList.length = n * z.size := by simp [zeroCells]
theorem zhS {P : Program} (w : World) (t el ty : TypeId) (g o n cap : Nat) (cur : Array Value) (tt : TypeId) (z : Value) (hu : P.underlying t = some (.slice el)) (hz : (zeroValue el).run P w = .ok z w) (h1 : ∀ v ∈ z.cells.toList, v.oneCell' = true)
  (hg : w.heap[g]? = some (.cells cur tt (0, 0))) (hn : 0 < n) (hfit : o + n * z.cells.size ≤ cur.size) :
  (Builtin.clear_ #[t] ty #[.slice (some ⟨g, o, none⟩) n cap]).run P w = .ok (.tuple #[]) (w.setRow g (setW cur.toList o (zeroCells z.cells n).toList).toArray) := by
 obtain ⟨m, rfl⟩ : ∃ m, n = m + 1 := ⟨n - 1, by omega⟩
 have hst := run_storeCells_at P g o tt (zeroCells z.cells (m + 1)).toList 0 cur w hg (by rw [zc3]; simpa using hfit) (zc2 h1 _)
 simp [Builtin.clear_, run_underlying hu, hz, hst, setW]
theorem zhT {P : Program} (w : World) (t el ty : TypeId) (b : Option Addr) (cap : Nat) (hu : P.underlying t = some (.slice el)) :
  (Builtin.clear_ #[t] ty #[.slice b 0 cap]).run P w = .ok (.tuple #[]) w := by
 cases b <;> simp [Builtin.clear_, run_underlying hu]
section
variable {P : Program} {nt : Nat} {Q : Post} {e : Env} {h : Heap} {ops : Array Oper} {o : Oper} {rest : List Oper} {T : List Nat} {tab : TTab} {fuel i : Nat} {listed : Array Bool}
theorem znX {t el : TypeId} {te te' : TE} {d : Option Tmp} {x : Operand} {id off1 n1 n k : Nat} {cs : List Dat} (TO : TabOk P tab) (ho : o.op = .call { callee := .builtin .clear, args := #[x], argTypes := #[t] }) (hdst : o.dst = d)
  (ht : tlook tab t = some te) (hs : te.sh = .sl el) (hel : tlook tab el = some te') (hk : te'.size = k) (hz1 : te'.zero.all (·.oneCell') = true) (hz2 : te'.zero.length = te'.size) (hx : aev e x = some (.srow id off1 n1)) (hb : look h id = some (.row el k n cs))
  (h1 : off1 + n1 * k ≤ n * k) (hd : dstOk nt d = true) (hT : T.contains id = true) :
  AEff P nt T e h o (fun e' h' => ∃ zs : List Dat, zs.length = n1 * k ∧ e' = aput d (.tup []) e ∧ h' = (id, .row el k n (setW cs off1 zs)) :: h) := fun Pm F w0 pin ι a w R K Qx hK => by
 subst hk
 obtain ⟨v, hv, xs, hown, hxl, hxr⟩ := R.heap.blk _ _ hb
 have hu := (TO t te ht).slice hs
 obtain ⟨z, hz, hz3, _⟩ := (TO el te' hel).zero w
 have hzs : z.cells.size = te'.size := by rw [← Array.length_toList, hz3, hz2]
 have hzo : ∀ v ∈ z.cells.toList, v.oneCell' = true := by rw [hz3]; exact List.all_eq_true.1 hz1
 have hrx := zj R.env hx
 have hcl : cs.length = n * te'.size := by rw [← hxl]; exact hown.1
 obtain ⟨ux, hux⟩ : ∃ ux, a.eval x = ux := ⟨_, rfl⟩
 rw [hux] at hrx
 cases hrx with
 | srow _ _ _ _ g1 g2 =>
  obtain ⟨b1, c1, rfl, _, k1⟩ := g2 v hv
  by_cases h0 : n1 = 0
  ·subst h0
   have hrun : (execOp a.eval o).run P w = .ok (.value (.tuple #[])) w := by
    simp [execOp, ho, resolve, invoke, builtin, hux, zhT w t el o.type b1 c1 hu]
   unfold Oper.wp
   rw [hrun, Oper.upon_value, hdst]
   refine hK ι _ _ _ _ ⟨[], by simp, rfl, rfl⟩ ?_ ⟨CT.refl T ι w, fun id _ v r hv hr _ => ⟨v, hv, hr⟩⟩ (zl _ _ _)
   refine ⟨?_, R.env.aput hd R.size (.tup _ _ rfl (by simp)), by rw [zl]; exact R.defers, by rw [zac]; exact R.size⟩
   rw [zeG]
   refine R.heap.relook fun j => ?_
   by_cases hj2 : id = j
   ·subst hj2; rw [ze, hb]
   ·rw [zc _ _ hj2]
  ·obtain ⟨g, N, cap, hvv, rfl⟩ := k1 (by omega)
   rcases hown.2 with ⟨q1, _⟩ | ⟨g0, cap0, cur, q1, _, hg, q4, q5, q6, q7⟩
   ·rw [hvv] at q1; cases q1
   rw [hvv] at q1; cases q1
   have hle : n * te'.size ≤ cur.size := by rw [q6]; exact Nat.mul_le_mul_right _ q4
   have hzl : (zeroCells z.cells n1).toList.length = n1 * te'.size := by rw [zc3, hzs]
   have hrun0 := zhS (P := P) w t el o.type g off1 n1 c1 cur el z hu hz hzo hg (by omega) (by rw [hzs]; omega)
   have hrun : (execOp a.eval o).run P w = .ok (.value (.tuple #[])) (w.setRow g (setW cur.toList off1 (zeroCells z.cells n1).toList).toArray) := by
    simp only [execOp, ho, resolve, invoke, builtin]
    simp [hux, hrun0]
   obtain ⟨hW, hnew⟩ := zaZ (C' := (setW cur.toList off1 (zeroCells z.cells n1).toList).toArray) hg (v := v) (by rw [hvv]; rfl)
   have hown2 := zf4 (off := off1) (news := (zeroCells z.cells n1).toList) hg hown.1 q4 q5 q6 q7 (by rw [hzl]; exact h1)
   unfold Oper.wp
   rw [hrun, Oper.upon_value, hdst]
   refine hK ι _ _ _ _ ⟨(zeroCells z.cells n1).toList.map Dat.sc, by rw [List.length_map, hzl], rfl, rfl⟩ ?_ ⟨⟨hW.os, hW.tape, hW.output, hW.size, fun r hr hne => hW.mem r hr fun he => hne id (List.contains_iff_mem.1 hT) v hv he⟩, fun id _ v r hv hr _ => ⟨v, hv, hr⟩⟩ (zl _ _ _)
   refine ⟨R.heap.wrote hW hv ⟨_, by rw [hvv]; exact hown2, by rw [zbe _ _ _ (by rw [hzl, hown.1]; omega), zbe _ _ _ (by rw [List.length_map, hzl]; omega), hxl], fun i c u h4 h5 => ?_⟩, (R.env.mono fun _ _ _ _ hv' => hv'.wrote hW hv).aput hd R.size (.tup _ _ rfl (by simp)), by rw [zl]; exact R.defers.ext (hW.ext hv), by rw [zac]; exact R.size⟩
   rw [zak (by rw [List.length_map, hzl]; omega), List.length_map, hzl] at h4
   rw [zak (by rw [hzl, hown.1]; omega), hzl] at h5
   split at h4
   ·rename_i hin
    rw [if_pos hin] at h5
    rw [List.getElem?_map, h5] at h4
    cases h4
    exact .sc u (zc2 hzo _ u (List.mem_of_getElem? h5))
   ·rename_i hin
    rw [if_neg hin] at h5
    exact (hxr _ _ _ h4 h5).ext (hW.ext hv).mem (hW.ext hv).free
theorem zi5 {t el k off1 n1 n id : Nat} {x : Operand} {cs : List Dat} (TO : TabOk P tab) (hw : awant ops e o = some true) (hdst : o.dst = none) (ho : o.op = .call { callee := .builtin .clear, args := #[x], argTypes := #[t] })
  (hel : telem tab t = some el) (hsz : tsize tab el = some k) (hok : (match tlook tab el with | some te => te.zero.all (·.oneCell') && Nat.beq te.zero.length te.size | none => false) = true) (hx : aev e x = some (.srow id off1 n1)) (hb : look h id = some (.row el k n cs)) (h1 : off1 + n1 * k ≤ n * k)
  (HK : ∀ zs : List Dat, zs.length = n1 * k → AOps P nt ops Q rest e ((id, .row el k n (setW cs off1 zs)) :: h)) : AOps P nt ops Q (o :: rest) e h := by
 obtain ⟨te, h3, h4⟩ := zy hel
 obtain ⟨te', h5, rfl⟩ := zu hsz
 rw [h5] at hok
 simp only [Bool.and_eq_true] at hok
 exact zat (T := [id]) hw (znX TO ho hdst h3 h4 h5 rfl hok.1 (Nat.eq_of_beq_eq_true hok.2) hx hb h1 rfl (by simp)) fun e' h' ⟨zs, h6, h7, h8⟩ => by subst h7 h8; exact HK zs h6
end
end Go.Proofs.YtmmdkjanmegjdaaGreat.Ab

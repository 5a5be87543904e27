/-
  Over abstract states: a variable's block becomes data; a variable that holds a nil slice; a slice made, and grown, in a region that draws its order.
-/
import Derived.Test.YtaecjmjdhbjbkaaAbsIter
import Derived.Test.YtaecjmjdhbjbkaaAbsAny
namespace Go.Proofs.Ytaecjmjdhbjbkaa.Ab
set_option linter.unusedVariables false
open Go.RowKit

mutual
def fzV (id : Nat) (ds : List Dat) : AVal → AVal
  | .ptr j off => cond (Nat.beq j id) (.iptr ds off) (.ptr j off)
  | .agg cs => .agg (fzL id ds cs)
  | .tup cs => .tup (fzL id ds cs)
  | .fn f cs => .fn f (fzL id ds cs)
  | .top => .top
  | .und => .und
  | .d x => .d x
  | .eptr j off => .eptr j off
  | .iptr cs off => .iptr cs off
  | .row j => .row j
  | .mp j => .mp j
  | .srow j o n => .srow j o n
  | .full cs n => .full cs n
def fzL (id : Nat) (ds : List Dat) : List AVal → List AVal
  | [] => []
  | c :: r => fzV id ds c :: fzL id ds r
end
theorem fzL_get (id : Nat) (ds : List Dat) (cs : List AVal) (i : Nat) : (fzL id ds cs)[i]? = (cs[i]?).map (fzV id ds) := by
  induction cs generalizing i with
  | nil => rfl
  | cons c r ih =>
    rw [fzL]
    cases i with
    | zero => rfl
    | succ i => simpa using ih i
theorem fzL_len (id : Nat) (ds : List Dat) (cs : List AVal) : (fzL id ds cs).length = cs.length := by
  induction cs with
  | nil => rfl
  | cons c r ih => rw [fzL]; simp [ih]
def fzB (id : Nat) (ds : List Dat) : ABlk → ABlk
  | .var cs => .var (fzL id ds cs)
  | .row e k n cs => .row e k n cs
  | .map es => .map (es.map fun p => (fzV id ds p.1, fzV id ds p.2))
  | .mapx r bs clk es => .mapx r bs clk (es.map fun p => (fzV id ds p.1, fzV id ds p.2))
  | .it o => .it o
def fzE (id : Nat) (ds : List Dat) : Env → Env
  | [] => []
  | (k, c) :: r => (k, fzV id ds c) :: fzE id ds r
def fzH (id : Nat) (ds : List Dat) : Heap → Heap
  | [] => []
  | (k, b) :: r => cond (Nat.beq k id) (fzH id ds r) ((k, fzB id ds b) :: fzH id ds r)
theorem look_fzE (id : Nat) (ds : List Dat) (e : Env) (t : Nat) : look (fzE id ds e) t = (look e t).map (fzV id ds) := by
  induction e with
  | nil => rfl
  | cons p r ih =>
    show cond _ _ _ = Option.map _ (cond _ _ _)
    cases Nat.beq p.1 t
    · exact ih
    · rfl
theorem look_fzH (id : Nat) (ds : List Dat) (h : Heap) (t : Nat) : look (fzH id ds h) t = if t = id then none else (look h t).map (fzB id ds) := by
  induction h with
  | nil => simp [fzH, look]
  | cons p r ih =>
    show look (cond _ _ _) t = _
    by_cases hpt : p.1 = t
    · cases hc : Nat.beq p.1 id
      · have := of_beq_no hc
        have e1 : look (p :: r) t = some p.2 := by rw [← hpt]; exact look_cons_same _ _ _
        rw [cond_false, e1, if_neg (by omega), ← hpt, look_cons_same]; rfl
      · have := Nat.eq_of_beq_eq_true hc
        rw [cond_true, ih, if_pos (by omega), if_pos (by omega)]
    · have e1 : look (p :: r) t = look r t := look_cons_ne _ _ hpt
      rw [e1]
      cases hc : Nat.beq p.1 id
      · rw [cond_false, look_cons_ne _ _ hpt, ih]
      · rw [cond_true, ih]
section
variable {nt : Nat} {e : Env} {h : Heap}
/-- A variable that is written no more becomes data. -/
theorem Wk_freezeV {id : Nat} {cs : List AVal} {ds : List Dat} (hb : look h id = some (.var cs)) (hcs : cs = ds.map .d) : AWk nt e h (fzE id ds e) (fzH id ds h) := fun Pm F w0 pin ι a w R => by
  subst hcs
  obtain ⟨v, hv, r, C, T, rfl, hC, hlC, hrr⟩ := R.heap.blk id _ hb
  let ι' : Nat → Option Value := fun j => if j = id then none else ι j
  have hs : ∀ j u, ι' j = some u → j ≠ id ∧ ι j = some u := fun j u hj => by
    simp only [ι'] at hj
    split at hj
    · cases hj
    · exact ⟨by assumption, hj⟩
  have he : Ext w F ι w ι' := ⟨fun _ _ _ => rfl, fun r _ hf => ⟨hf.1, fun j u hj => hf.2 j u (hs j u hj).2⟩⟩
  have hfr : FreeB F ι' r := ⟨R.heap.nf id _ r hv rfl, fun j u hj hb => by
    obtain ⟨h1, h2⟩ := hs j u hj
    exact R.heap.inj j id u _ r h1 h2 hv hb rfl⟩
  have hlen : C.toList.length = ds.length := by simpa using hlC
  have hcell : ∀ (i : Nat) (u : Value), C.toList[i]? = some u → w.cell? ⟨r, 0 + i, none⟩ = some u := fun i u hu => by
    rw [Nat.zero_add]; simp [World.cell?, hC]; simpa using hu
  have hdat : ∀ (i : Nat) (c : Dat) (u : Value), ds[i]? = some c → C.toList[i]? = some u → DRel w (FreeB F ι') c u := fun i c u h1 h2 => by
    have := hrr i (.d c) u (by rw [List.getElem?_map, h1]; rfl) (by simpa using h2)
    cases this with
    | d _ _ hd => exact hd.ext he.mem he.free
  have vk : ∀ c u, VRel w F ι c u → VRel w F ι' (fzV id ds c) u := by
    intro c u hc
    induction hc with
    | top u => exact .top u
    | und => exact .und
    | d x u hd => exact .d x u (hd.ext he.mem he.free)
    | agg cs C hl h ih =>
      refine .agg _ C (by rw [fzL_len]; exact hl) fun i c u h1 h2 => ?_
      rw [fzL_get] at h1
      cases h3 : cs[i]? with
      | none => simp [h3] at h1
      | some c0 => simp [h3] at h1; subst h1; exact ih i c0 u h3 h2
    | tup cs C hl h ih =>
      refine .tup _ C (by rw [fzL_len]; exact hl) fun i c u h1 h2 => ?_
      rw [fzL_get] at h1
      cases h3 : cs[i]? with
      | none => simp [h3] at h1
      | some c0 => simp [h3] at h1; subst h1; exact ih i c0 u h3 h2
    | ptr j off u h1 h =>
      rw [fzV]
      cases hj : Nat.beq j id with
      | true =>
        have := Nat.eq_of_beq_eq_true hj
        subst this
        obtain ⟨g, h3, rfl⟩ := h _ hv
        cases h3
        have := VRel.iptr (w := w) (F := F) (ι := ι') ds off r 0 C.toList hlen (fun _ => hfr) hcell hdat
        rw [Nat.zero_add] at this
        exact this
      | false => exact .ptr j off u h1 fun v hv => h v (hs j v hv).2
    | eptr j off u h1 h => exact .eptr j off u h1 fun v hv => h v (hs j v hv).2
    | iptr cs off b o' vs hl hf hc hr => exact (VRel.iptr cs off b o' vs hl hf hc hr : VRel w F ι _ _).ext he fun j v _ hv => (hs j v hv).2
    | row j u h1 h => exact .row j u h1 fun v hv => h v (hs j v hv).2
    | mp j u h1 h => exact .mp j u h1 fun v hv => h v (hs j v hv).2
    | srow j off n u h1 h => exact .srow j off n u h1 fun v hv => h v (hs j v hv).2
    | full cs n b h => exact .full cs n b (h.ext he.mem he.free)
    | fn f cs C hl h ih =>
      refine .fn f _ C (by rw [fzL_len]; exact hl) fun i c u h1 h2 => ?_
      rw [fzL_get] at h1
      cases h3 : cs[i]? with
      | none => simp [h3] at h1
      | some c0 => simp [h3] at h1; subst h1; exact ih i c0 u h3 h2
  refine ⟨ι', ⟨?_, ?_, fun i j v v' r hij hi hj => R.heap.inj i j v v' r hij (hs i v hi).2 (hs j v' hj).2, fun i v r hi => R.heap.pm i v r (hs i v hi).2, R.heap.os, R.heap.tape, R.heap.output, R.heap.size, R.heap.keep, R.heap.fresh, fun i v h1 hi => R.heap.pinned i v h1 (hs i v hi).2, fun i v r hi => R.heap.nf i v r (hs i v hi).2, R.heap.forb⟩, ?_, R.defers.ext he, R.size⟩
  · intro j b hj
    rw [look_fzH] at hj
    split at hj
    · cases hj
    · rename_i hji
      cases hl2 : look h j with
      | none => simp [hl2] at hj
      | some b0 =>
        simp [hl2] at hj
        subst hj
        obtain ⟨v2, hv2, hB⟩ := R.heap.blk j b0 hl2
        refine ⟨v2, by simp [ι', hji, hv2], ?_⟩
        cases b0 with
        | var es =>
          obtain ⟨r, C, tt, rfl, h3, h4, h5⟩ := hB
          refine ⟨r, C, tt, rfl, h3, by rw [fzL_len]; exact h4, fun i c u h6 h7 => ?_⟩
          rw [fzL_get] at h6
          cases h8 : es[i]? with
          | none => simp [h8] at h6
          | some c0 => simp [h8] at h6; subst h6; exact vk _ _ (h5 i c0 u h8 h7)
        | row el2 k2 n2 es =>
          obtain ⟨ys, hown2, h4, h5⟩ := hB
          exact ⟨ys, hown2, h4, fun i c u h6 h7 => (h5 i c u h6 h7).ext he.mem he.free⟩
        | map es =>
          obtain ⟨r, E, clk, rfl, h3, h4, h5, h6⟩ := hB
          refine ⟨r, E, clk, rfl, h3, by simpa using h4, fun i p m h7 h8 => ?_, h6⟩
          rw [List.getElem?_map] at h7
          cases h9 : es[i]? with
          | none => simp [h9] at h7
          | some p0 => simp [h9] at h7; subst h7; exact ⟨vk _ _ (h5 i p0 m h9 h8).1, vk _ _ (h5 i p0 m h9 h8).2⟩
        | mapx r0 bs0 clk0 es =>
          obtain ⟨E, rfl, h3, h4, h5, h6⟩ := hB
          refine ⟨E, rfl, h3, by simpa using h4, fun i p m h7 h8 => ?_, h6⟩
          rw [List.getElem?_map] at h7
          cases h9 : es[i]? with
          | none => simp [h9] at h7
          | some p0 => simp [h9] at h7; subst h7; exact ⟨vk _ _ (h5 i p0 m h9 h8).1, vk _ _ (h5 i p0 m h9 h8).2⟩
        | it o => exact hB
  · intro j u hj
    obtain ⟨h1, h2⟩ := hs j u hj
    obtain ⟨b, hb⟩ := R.heap.dom j u h2
    exact ⟨fzB id _ b, by rw [look_fzH, if_neg h1, hb]; rfl⟩
  · intro t c ht
    rw [look_fzE] at ht
    cases hl2 : look e t with
    | none => simp [hl2] at ht
    | some c0 =>
      simp [hl2] at ht
      subst ht
      obtain ⟨u, hu, hv2⟩ := R.env t c0 hl2
      exact ⟨u, hu, vk _ _ hv2⟩
/-- A variable that holds a nil slice holds a row of one's own, of no element. -/
theorem Wk_nilB {b id : Nat} (el k : Nat) (hb : look h b = some (.var [.d (.sc (.slice none 0 0))])) (hid : Nat.blt id 1000 = true) (hne : Nat.beq b id = false) :
    AWk nt e h (killE id e) ((b, .var [.row id]) :: (id, .row el k 0 []) :: killH id h) := fun Pm F w0 pin ι a w R => by
  have hid' : id < 1000 := by simp [Nat.blt] at hid; omega
  have hne' := of_beq_no hne
  have TT : Touch w ι id (.slice none 0 0) w := ⟨rfl, rfl, rfl, Nat.le_refl _, fun _ _ _ => rfl, fun r hr => by cases hr⟩
  have H1 := R.heap.touch TT (.inl hid') (b' := .row el k 0 []) ⟨[], World.ownsRow_nil _ _ _ _, rfl, by simp⟩
  obtain ⟨v, hv, r, C, T, rfl, hC, hlC, hrr⟩ := R.heap.blk b _ hb
  have hv1 : upd ι id (some (.slice none 0 0)) b = some (.pointer (some ⟨r, 0, none⟩)) := by simp [upd, hne', hv]
  have hW : Wrote w (.pointer (some ⟨r, 0, none⟩)) w := ⟨rfl, rfl, rfl, Nat.le_refl _, fun _ _ _ => rfl⟩
  have H2 := H1.wrote (b' := .var [.row id]) hW hv1 ⟨r, C, T, rfl, hC, hlC, fun i c u h1 h2 => by
    cases i with
    | zero =>
      simp at h1
      subst h1
      have h3 := hrr 0 _ u rfl h2
      refine .row id u (by rw [(sc_of h3).1]; rfl) fun v' hv' => ?_
      simp [upd] at hv'
      rw [(sc_of h3).1, hv']
    | succ i => simp at h1⟩
  exact ⟨_, H2, R.env.killed TT.ext, R.defers.ext TT.ext, R.size⟩
end
section
variable {P : Program} {nt : Nat} {Q : Post} {e : Env} {h : Heap} {ops : Array Oper} {T : List Nat} {fuel i : Nat} {listed : Array Bool} {o : Oper} {tab : TTab}
theorem T_slice {t el k len d : Nat} {ps : Array (Nat × Operand)} {al : List (Nat × AVal)} {xs : List AVal} {ds : List Dat} (TO : TabOk P tab) (hi : ops[i]? = some o) (hw : awant ops e o = some true) (hdst : o.dst = some d) (hd : Nat.blt d nt = true) (hid : Nat.blt d 1000 = true) (ho : o.op = .buildSlice t len ps)
    (hel : telem tab t = some el) (hsz : tsize tab el = some k) (hok : (match tlook tab el with | some te => te.zero.all (·.oneCell') && Nat.blt 0 te.size && Nat.beq te.zero.length te.size && Nat.blt (len * te.size) 16777216 && Nat.blt 0 len | none => false) = true)
    (hal : aparts e ps.toList = some al) (hf : (match tlook tab el with
      | some te => afill (fun i => some (i * te.size, te.size)) ((List.range (len * te.size)).map fun j => match te.zero[j % te.size]? with | some v => .d (.sc v) | none => .top) al
      | none => none) = some xs) (hds : datsA xs = some ds)
    (HK : AAny P nt ops Q T fuel (listed.setIfInBounds i true) ((d, .row d) :: killE d e) ((d, .row el k len ds) :: killH d h)) : AAt P nt ops Q T fuel listed i e h := by
  obtain ⟨te, h1, h2⟩ := telem_spec hel
  obtain ⟨te', h3, rfl⟩ := tsize_spec hsz
  rw [h3] at hok hf
  simp only [Bool.and_eq_true] at hok
  exact T_eff hi hw (E_buildSlice TO ho hdst h1 h2 h3 hok.1.1.1.1 hok.1.1.1.2 hok.1.1.2 hok.1.2 hok.2 hal hf (datsA_spec hds) hid hd) fun e' h' ⟨h1, h2⟩ => by subst h1 h2; exact HK
theorem T_appR {t el k rid n m d : Nat} {x y : Operand} {cy : AVal} {cs ds : List Dat} (TO : TabOk P tab) (hi : ops[i]? = some o) (hw : awant ops e o = some true) (hdst : o.dst = some d) (hd : Nat.blt d nt = true) (ho : o.op = .call { callee := .builtin .append, args := #[x, y], argTypes := #[t, t] })
    (hel : telem tab t = some el) (hsz : tsize tab el = some k) (hok : (match tlook tab el with | some te => Nat.blt 0 te.size && Nat.beq te.zero.length te.size && Nat.ble te.bytes 65536 | none => false) = true)
    (hx : aev e x = some (.row rid)) (hb : look h rid = some (.row el k n cs)) (hid : Nat.blt rid 1000 = true) (hy : aev e y = some cy) (S : Src h cy m ds) (hl : ds.length = m * k) (hn : n + m ≤ 2147483648) (hT : T.contains rid = true)
    (HK : AAny P nt ops Q T fuel (listed.setIfInBounds i true) ((d, .row rid) :: killE rid e) ((rid, .row el k (n + m) (cs ++ ds)) :: killH rid h)) : AAt P nt ops Q T fuel listed i e h := by
  obtain ⟨te, h1, h2⟩ := telem_spec hel
  obtain ⟨te', h3, rfl⟩ := tsize_spec hsz
  rw [h3] at hok
  simp only [Bool.and_eq_true] at hok
  exact T_eff hi hw (E_append TO ho hdst h1 h2 h3 hok.1.1 hok.1.2 hok.2 hx hy (.row hb) S hl hn hid hd hT) fun e' h' ⟨h1, h2⟩ => by subst h1 h2; exact HK
end
end Go.Proofs.Ytaecjmjdhbjbkaa.Ab

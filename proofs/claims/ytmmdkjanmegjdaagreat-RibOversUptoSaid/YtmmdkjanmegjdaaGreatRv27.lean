/-
 Texts of a proof, one behind the other (part 28).
-/
import Derived.Test.YtmmdkjanmegjdaaGreatRv1
import Derived.Test.YtmmdkjanmegjdaaGreatRv4
import Derived.Test.YtmmdkjanmegjdaaGreatRv22
import Derived.Test.YtmmdkjanmegjdaaGreatRv26
set_option maxRecDepth 100000
set_option linter.unusedVariables false
set_option linter.unusedSimpArgs false
namespace Go.Proofs.YtmmdkjanmegjdaaGreat.Ab
open Go.RowKit

def raw1 (ρ : Nat → Value) : AVal → AVal
 | .row id => .d (.sc (ρ id))
 | .d x => .d x
 | _ => .top
def rawB (ρ : Nat → Value) (id : Nat) : ABlk → ABlk
 | .row e k n cs => .rowx (ρ id) e k n cs
 | b => b
def rawH (ρ : Nat → Value) : Heap → Heap
 | [] => []
 | (id, b) :: r => (id, rawB ρ id b) :: rawH ρ r
theorem zfz (ρ : Nat → Value) (h : Heap) (t : Nat) : look (rawH ρ h) t = (look h t).map (rawB ρ t) := by
 induction h with
 | nil => rfl
 | cons p r ih =>
  obtain ⟨id, b⟩ := p
  by_cases hp : id = t
  ·subst hp
   rw [rawH, ze, ze]; rfl
  ·rw [rawH, zc _ _ hp, zc _ _ hp, ih]
section
variable {P : Program} {Pm F : Nat → Prop} {w0 w : World} {pin ι : Nat → Option Value} {h : Heap}
theorem HRel.raw (H : HRel Pm F w0 pin ι h w) (ρ : Nat → Value) (hρ : ∀ id v, ι id = some v → ρ id = v) : HRel Pm F w0 pin ι (rawH ρ h) w := by
 refine ⟨fun id b hb => ?_, fun id v hv => ?_, H.inj, H.pm, H.os, H.tape, H.output, H.size, H.keep, H.fresh, H.pinned, H.nf, H.forb⟩
 ·rw [zfz] at hb
  cases hl : look h id with
  | none => simp [hl] at hb
  | some b0 =>
   simp [hl] at hb
   subst hb
   obtain ⟨v, hv, hB⟩ := H.blk id b0 hl
   refine ⟨v, hv, ?_⟩
   cases b0 with
   | row e k n cs => exact ⟨(hρ id v hv).symm, hB⟩
   | _ => exact hB
 ·obtain ⟨b, hb⟩ := H.dom id v hv
  exact ⟨rawB ρ id b, by rw [zfz, hb]; rfl⟩
theorem zkU (H : HRel Pm F w0 pin ι h w) (ρ : Nat → Value) (hρ : ∀ id v, ι id = some v → ρ id = v) {c : AVal} {u : Value} (hin : ∀ id, c = .row id → (look h id).isSome = true) (hc : VRel w F ι c u) : VRel w F ι (raw1 ρ c) u := by
 cases c with
 | row id =>
  obtain ⟨b, hb⟩ := Option.isSome_iff_exists.1 (hin id rfl)
  obtain ⟨v, hv, _⟩ := H.blk id b hb
  cases hc with
  | row _ _ h1 h2 =>
   have := h2 v hv
   subst this
   show VRel w F ι (.d (.sc (ρ id))) u
   rw [hρ id u hv]
   exact .d _ _ (.sc u h1)
 | d x => exact hc
 | _ => exact .top u
theorem ACall.raw {f : FuncId} {args cs : List AVal} {h0 : Heap} (H : ACall P f args h (fun c h' => c = .agg cs ∧ h' = h0)) (hin : ∀ id, AVal.row id ∈ cs → (look h0 id).isSome = true) :
  ACall P f args h (fun c h' => ∃ ρ : Nat → Value, c = .agg (cs.map (raw1 ρ)) ∧ h' = rawH ρ h0) :=
 ⟨H.1, fun Pm F w0 pin ι us w a b => (H.2 Pm F w0 pin ι us w a b).mono fun x w' ⟨u, c, h', ι', h2, h3, h4, h5⟩ => by
  obtain ⟨rfl, rfl⟩ := h3
  have hρ : ∀ id v, ι' id = some v → ((ι' id).getD undef) = v := fun id v hv => by rw [hv]; rfl
  refine ⟨u, _, _, ι', h2, ⟨fun id => (ι' id).getD undef, rfl, rfl⟩, h4.raw _ hρ, ?_⟩
  cases h5 with
  | agg _ C hl hh =>
   refine .agg _ C (by rw [hl, List.length_map]) fun i c u h1 h2 => ?_
   rw [List.getElem?_map] at h1
   cases h3 : cs[i]? with
   | none => rw [h3] at h1; cases h1
   | some c0 =>
    rw [h3] at h1
    cases h1
    exact zkU h4 _ hρ (fun id he => hin id (by subst he; exact List.mem_of_getElem? h3)) (hh i c0 u h3 h2)⟩
end

inductive RawD (h : Heap) : Dat → Dat → Prop where
 | same (x : Dat) : RawD h x x
 | row (hv : Value) (id : Nat) (e : TypeId) (k n : Nat) (cs : List Dat) (hb : look h id = some (.rowx hv e k n cs)) : RawD h (.sc hv) (.sl cs n)
def RawDs (h : Heap) (cs cs' : List Dat) : Prop := cs'.length = cs.length ∧ ∀ (i : Nat) (c c' : Dat), cs[i]? = some c → cs'[i]? = some c' → RawD h c c'
theorem RawDs.nil (h : Heap) : RawDs h [] [] := ⟨rfl, fun i c c' h => by simp at h⟩
theorem RawDs.cons {h : Heap} {c c' : Dat} {cs cs' : List Dat} (h1 : RawD h c c') (h2 : RawDs h cs cs') : RawDs h (c :: cs) (c' :: cs') :=
 ⟨by simp [h2.1], fun i x y hx hy => by
  cases i with
  | zero => simp at hx hy; subst hx hy; exact h1
  | succ i => exact h2.2 i x y (by simpa using hx) (by simpa using hy)⟩
theorem RawDs.app {h : Heap} {cs cs' ds ds' : List Dat} (h1 : RawDs h cs cs') (h2 : RawDs h ds ds') : RawDs h (cs ++ ds) (cs' ++ ds') :=
 ⟨by simp [h1.1, h2.1], fun i x y hx hy => by
  rw [List.getElem?_append] at hx hy
  rw [h1.1] at hy
  split at hx
  ·rename_i hl; rw [if_pos hl] at hy; exact h1.2 _ _ _ hx hy
  ·rename_i hl; rw [if_neg hl] at hy; exact h2.2 _ _ _ hx hy⟩
inductive All2 {α β : Type} (R : α → β → Prop) : List α → List β → Prop where
 | nil : All2 R [] []
 | cons {a : α} {b : β} {l : List α} {m : List β} (h1 : R a b) (h2 : All2 R l m) : All2 R (a :: l) (b :: m)
inductive RawV (h : Heap) : AVal → AVal → Prop where
 | same (c : AVal) : RawV h c c
 | d (x y : Dat) (hd : RawD h x y) : RawV h (.d x) (.d y)
 | agg (cs cs' : List Dat) (hd : RawDs h cs cs') : RawV h (.agg (cs.map .d)) (.agg (cs'.map .d))
 | row (id e k n : Nat) (cs cs' : List Dat) (hb : look h id = some (.row e k n cs)) (hd : RawDs h cs cs') : RawV h (.row id) (.d (.sl cs' n))
inductive RawL (h : Heap) : List AVal → List AVal → Prop where
 | nil : RawL h [] []
 | cons {c c' : AVal} {cs cs' : List AVal} (h1 : RawV h c c') (h2 : RawL h cs cs') : RawL h (c :: cs) (c' :: cs')
section
variable {Pm F : Nat → Prop} {w0 w : World} {pin ι : Nat → Option Value} {h : Heap}
theorem zjm {el k n : Nat} {ds : List Dat} {v : Value} (h : RowR w F ι el k n ds v) : DRel w (FreeB (fun _ => False) (fun _ => none)) (.sl ds n) v := by
 obtain ⟨xs, hown, hl, hr⟩ := h
 rcases hown.2 with ⟨h3, h4⟩ | ⟨g, cap, cur, h3, _, hg, hn, _, hs, ht⟩
 ·subst h3 h4
  have hx := hown.1
  rw [Nat.zero_mul] at hx
  have : ds = [] := List.length_eq_zero_iff.1 (by omega)
  subst this
  exact .nil
 ·subst h3
  refine .sl ds n g 0 cap xs hn hl (fun _ => FreeB.all g) (fun i x hx => ?_) fun i c x h5 h6 => (hr i c x h5 h6).ext (fun _ _ _ => rfl) fun r _ _ => FreeB.all r
  rw [← ht, List.getElem?_take] at hx
  split at hx
  ·simp only [World.cell?, hg]
   simpa using hx
  ·cases hx
theorem zeN (H : HRel Pm F w0 pin ι h w) {x y : Dat} {u : Value} (hd : RawD h x y) (hx : DRel w (FreeB F ι) x u) : DRel w (FreeB (fun _ => False) (fun _ => none)) y u := by
 cases hd with
 | same => exact hx.ext (fun _ _ _ => rfl) fun r _ _ => FreeB.all r
 | row hv id e k n cs hb =>
  cases hx with
  | sc _ h1 =>
   obtain ⟨v, hv, hB⟩ := H.blk id _ hb
   obtain ⟨rfl, hB⟩ := hB
   exact zjm hB
theorem zmS (H : HRel Pm F w0 pin ι h w) {c c' : AVal} {u : Value} (hr : RawV h c c') (hc : VRel w F ι c u) : VRel w (fun _ => False) (fun _ => none) c' u := by
 cases hr with
 | same => exact hc.extF ⟨fun _ _ _ => rfl, fun r _ _ => FreeB.all r⟩ fun _ _ _ h => by cases h
 | d x y hd => cases hc with | d _ _ hx => exact .d _ _ (zeN H hd hx)
 | agg cs cs' hd =>
  cases hc with
  | agg _ C hl hh =>
   refine .agg _ C (by rw [hl, List.length_map, List.length_map, hd.1]) fun i c u h1 h2 => ?_
   rw [List.getElem?_map] at h1
   cases h3 : cs'[i]? with
   | none => rw [h3] at h1; cases h1
   | some c0 =>
    rw [h3] at h1
    cases h1
    have hlt : i < cs.length := by rw [← hd.1]; exact (List.getElem?_eq_some_iff.1 h3).1
    have hci := List.getElem?_eq_getElem hlt
    have := hh i (.d cs[i]) u (by rw [List.getElem?_map, hci]; rfl) h2
    cases this with
    | d _ _ hx => exact .d _ _ (zeN H (hd.2 i _ _ hci h3) hx)
 | row id e k n cs cs' hb hd =>
  obtain ⟨v, hv, xs, hown, hl, hr⟩ := H.blk id _ hb
  cases hc with
  | row _ _ h1 h2 =>
   have := h2 v hv
   subst this
   rcases hown.2 with ⟨h3, h4⟩ | ⟨g, cap, cur, h3, _, hg, hn, _, hs, ht⟩
   ·subst h3 h4
    have hx := hown.1
    rw [Nat.zero_mul] at hx
    have : cs' = [] := List.length_eq_zero_iff.1 (by rw [hd.1]; omega)
    subst this
    exact .d _ _ .nil
   ·subst h3
    refine .d _ _ (.sl cs' n g 0 cap xs hn (by rw [hl, hd.1]) (fun _ => FreeB.all g) (fun i x hx => ?_) fun i c x h5 h6 => ?_)
    ·rw [← ht, List.getElem?_take] at hx
     split at hx
     ·simp only [World.cell?, hg]
      simpa using hx
     ·cases hx
    ·have hlt : i < cs.length := by rw [← hd.1]; exact (List.getElem?_eq_some_iff.1 h5).1
     have hci := List.getElem?_eq_getElem hlt
     exact zeN H (hd.2 i _ _ hci h5) (hr i _ x hci h6)
theorem zhm (H : HRel Pm F w0 pin ι h w) : ∀ {cs cs' : List AVal} {us : List Value}, RawL h cs cs' → us.length = cs.length → (∀ (i : Nat) (c : AVal) (u : Value), cs[i]? = some c → us[i]? = some u → VRel w F ι c u) →
  us.length = cs'.length ∧ ∀ (i : Nat) (c : AVal) (u : Value), cs'[i]? = some c → us[i]? = some u → VRel w (fun _ => False) (fun _ => none) c u
 | _, _, us, .nil, h1, _ => ⟨h1, fun i c u h => by simp at h⟩
 | _, _, us, .cons hv hl, h1, h2 => by
  cases us with
  | nil => simp at h1
  | cons u us =>
   obtain ⟨h3, h4⟩ := zhm H hl (us := us) (by simpa using h1) fun i c u a b => h2 (i + 1) c u (by simpa using a) (by simpa using b)
   refine ⟨by simp [h3], fun i c x a b => ?_⟩
   cases i with
   | zero => simp at a b; subst a b; exact zmS H hv (h2 0 _ _ rfl rfl)
   | succ i => exact h4 i c x (by simpa using a) (by simpa using b)
theorem argsR (H : HRel Pm F w0 pin ι h w) {cs cs' : List AVal} {us : Array Value} (hr : RawL h cs cs') (A : ArgsRel w F ι cs us) : ArgsRel w (fun _ => False) (fun _ => none) cs' us := by
 obtain ⟨h1, h2⟩ := zhm H hr (us := us.toList) (by simpa using A.1) fun i c u a b => A.2 i c u a (by simpa using b)
 exact ⟨by simpa using h1, fun i c u a b => h2 i c u a (by simpa using b)⟩
end
section
variable {P : Program} {nt : Nat} {Q : Post} {e : Env} {h : Heap} {ops : Array Oper} {o : Oper} {rest : List Oper} {T : List Nat} {tab : TTab} {fuel i : Nat} {listed : Array Bool}
theorem Q_cR {f : FuncId} {args : Array Operand} {ats : Array TypeId} {cs cs' : List AVal} {c : AVal} {v : Value} {d : Nat} (hr : RawL h cs cs') (H : ACall P f cs' [] (fun c' h' => c' = c ∧ h' = [])) (hw : awant ops e o = some true) (hdst : o.dst = some d) (hd : Nat.blt d nt = true) (ho : o.op = .call { callee := .value (.func f), args := args, argTypes := ats }) (hx : aevs e args.toList = some cs)
  (hc : valA c = some v) (hrel : ∀ w F ι, VRel w F ι c v) (HK : AQ P nt ops Q rest ((d, c) :: e) h) : AQ P nt ops Q (o :: rest) e h := fun Pm F w0 pin ι a w R =>
 wpQuiet_step fun K hK => by
  rw [zaQ R.env hw, if_pos rfl]
  refine ⟨v, fun w' hw' => ?_, ?_⟩
  ·unfold Oper.quietAt
   rw [zbH H.1 ho]
   refine ⟨rfl, ?_⟩
   have R' := R.grew hw'.grew
   refine (H.2 _ _ w' _ _ _ w' (HRel.none (fun _ => False) w' (fun _ h => h.elim)) (argsR R'.heap hr (zbD R'.env hx))).mono ?_
   rintro x w2 ⟨u, c', h', ι', rfl, ⟨rfl, rfl⟩, hH, hv⟩
   refine ⟨by rw [zax hv hc], ?_⟩
   exact (hw'.grew.trans hH.grewC).ct []
  ·rw [hdst]
   exact hK _ (HK Pm F w0 pin ι _ w (R.put (d := some d) hd (hrel _ _ _)))

def plainD : Dat → Bool
 | .sc _ => true
 | _ => false
def plainB : ABlk → Bool
 | .row _ _ _ cs => cs.all plainD
 | .rowx _ _ _ _ cs => cs.all plainD
 | _ => false
def plainV1 : AVal → Bool
 | .row _ => true
 | .d x => plainD x
 | _ => false
def plainV : AVal → Bool
 | .tup cs => cs.all plainV1
 | .agg cs => cs.all plainV1
 | c => plainV1 c
theorem DRel.plain {w : World} {Fr Fr' : Nat → Prop} {x : Dat} {u : Value} (hp : plainD x = true) (h : DRel w Fr x u) : DRel w Fr' x u := by
 cases h with
 | sc _ h => exact .sc _ h
 | _ => cases hp
theorem VRel.plain1 {w : World} {F F' : Nat → Prop} {ι : Nat → Option Value} {c : AVal} {u : Value} (hp : plainV1 c = true) (h : VRel w F ι c u) : VRel w F' ι c u := by
 cases h with
 | row id u h1 h2 => exact .row id u h1 h2
 | d x u h => exact .d x u (DRel.plain hp h)
 | _ => cases hp
theorem VRel.plain {w : World} {F F' : Nat → Prop} {ι : Nat → Option Value} {c : AVal} {u : Value} (hp : plainV c = true) (h : VRel w F ι c u) : VRel w F' ι c u := by
 cases h with
 | tup cs C hl hh => exact .tup cs C hl fun i c u h1 h2 => (hh i c u h1 h2).plain1 (List.all_eq_true.1 hp c (List.mem_of_getElem? h1))
 | agg cs C hl hh => exact .agg cs C hl fun i c u h1 h2 => (hh i c u h1 h2).plain1 (List.all_eq_true.1 hp c (List.mem_of_getElem? h1))
 | row id u h1 h2 => exact .row id u h1 h2
 | d x u h => exact .d x u (DRel.plain hp h)
 | _ => cases hp
theorem RowR.plain {w : World} {F F' : Nat → Prop} {ι ι' : Nat → Option Value} {e k n : Nat} {cs : List Dat} {v : Value} (hp : cs.all plainD = true) (h : RowR w F ι e k n cs v) : RowR w F' ι' e k n cs v := by
 obtain ⟨xs, h1, h2, h3⟩ := h
 exact ⟨xs, h1, h2, fun i c u a b => DRel.plain (List.all_eq_true.1 hp c (List.mem_of_getElem? a)) (h3 i c u a b)⟩
theorem BRel.plain {w : World} {F F' : Nat → Prop} {ι ι' : Nat → Option Value} {b : ABlk} {v : Value} (hp : plainB b = true) (h : BRel w F ι b v) : BRel w F' ι' b v := by
 cases b with
 | row e k n cs => exact RowR.plain hp h
 | rowx hv e k n cs => exact ⟨h.1, h.2.plain hp⟩
 | _ => cases hp
end
end Go.Proofs.YtmmdkjanmegjdaaGreat.Ab

namespace Go.Proofs.YtmmdkjanmegjdaaGreat.Ab
open Go.RowKit
section
variable {P : Program} {nt : Nat} {Q : Post} {e : Env} {h : Heap} {ops : Array Oper} {o : Oper} {rest : List Oper} {T : List Nat} {tab : TTab} {fuel i : Nat} {listed : Array Bool}
theorem ziG {Pm F : Nat → Prop} {w0 w : World} {pin ι : Nat → Option Value} (H : HRel Pm F w0 pin ι h w) {id : Nat} {hv : Value} {el k n : Nat} {cs : List Dat} (hb : look h id = some (.rowx hv el k n cs)) :
  (∃ b c, hv = .slice b n c) ∧ (0 < n → ι id = some hv ∧ ∃ g cap, hv = .slice (some ⟨g, 0, none⟩) n cap) := by
 obtain ⟨v, hv', hB⟩ := H.blk id _ hb
 obtain ⟨rfl, xs, hown, _⟩ := hB
 rcases hown.2 with ⟨h3, h4⟩ | ⟨g, cap, cur, h3, _⟩
 ·subst h4; exact ⟨⟨_, _, h3⟩, fun h => absurd h (by omega)⟩
 ·exact ⟨⟨_, _, h3⟩, fun _ => ⟨hv', g, cap, h3⟩⟩
theorem zgt {t el el' id k n : Nat} {x : Operand} {cs : List Dat} {hv : Value} (hb : look h id = some (.rowx hv el' k n cs)) (TO : TabOk P tab) (ho : o.op = .call { callee := .builtin .len, args := #[x], argTypes := #[t] }) (hel : telem tab t = some el) (hx : aev e x = some (.d (.sc hv))) : AYield P T e h o (.d (.sc (.int .i64 (n : Int)))) := fun Pm F w0 pin ι a w H E => by
 obtain ⟨te, h1, h2⟩ := zy hel
 refine ⟨.int .i64 n, zH rfl, fun w' _ => ?_⟩
 obtain ⟨⟨b, c, hk⟩, _⟩ := ziG H hb
 have hu := (TO t te h1).slice h2
 have hxx := (zQ (zj E hx)).1
 rw [hk] at hxx
 simp [execOp, ho, resolve, invoke, builtin, hxx, Builtin.len_, run_underlying hu, goInt]
theorem zhE {t el el' k kk j id : Nat} {x y : Operand} {cs : List Dat} {n : Nat} {q : IntKind} {i : Int} {hv : Value} (hb : look h id = some (.rowx hv el' kk n cs)) (hjn : j < n) (TO : TabOk P tab) (ho : o.op = .indexAddr t x y) (hel : telem tab t = some el) (hsz : tsize tab el = some k) (hx : aev e x = some (.d (.sc hv))) (hy : aev e y = some (.d (.sc (.int q i)))) (hj : i = (j : Int)) :
  AYield P T e h o (.eptr id (j * k)) := fun Pm F w0 pin ι a w H E => by
 obtain ⟨te, h1, h2⟩ := zy hel
 obtain ⟨te', h3, rfl⟩ := zu hsz
 obtain ⟨_, h4⟩ := ziG H hb
 obtain ⟨hvv, g, cap, rfl⟩ := h4 (by omega)
 have hk := (zQ (zj E hy)).1
 have hxx := (zQ (zj E hx)).1
 have hu := (TO t te h1).slice h2
 subst hj
 refine ⟨.pointer (some ⟨g, j * te'.size, none⟩), .eptr id _ _ rfl fun v' hv' => ?_, fun w' _ => ?_⟩
 ·rw [hvv] at hv'; cases hv'; exact ⟨g, n, cap, rfl, rfl⟩
 ·simp [execOp, ho, hxx, hk, zbt w' hu (TO el te' h3) g 0 n cap q (j : Int) ⟨by omega, by omega⟩]
theorem zke {t : TypeId} {x y : Operand} {d : Option Tmp} {te : TE} {id off el k n : Nat} {cs ds : List Dat} {xs : List AVal} {c : AVal} {hh : Value} (TO : TabOk P tab) (ho : o.op = .store t x y) (hdst : o.dst = d) (ht : tlook tab t = some te) (hx : aev e x = some (.eptr id off)) (hb : look h id = some (.rowx hh el k n cs))
  (hy : aev e y = some c) (hcs : cellsA c = some xs) (hds : xs = ds.map AVal.d) (hl : xs.length = te.size) (hle : off + te.size ≤ cs.length) (h0 : 0 < n) (hd : dstOk nt d = true) (hT : T.contains id = true) :
  AEff P nt T e h o (fun e' h' => e' = aput d .und e ∧ h' = (id, .rowx hh el k n (setW cs off ds)) :: h) := fun Pm F w0 pin ι a w R K Qx hK => by
 obtain ⟨v, hv, hB⟩ := R.heap.blk id _ hb
 obtain ⟨hvv, zs, hown, hlC, hr⟩ := hB
 have hrel := zj R.env hx
 have hyr := zj R.env hy
 obtain ⟨hsz, hcr⟩ := zcd hyr hcs
 obtain ⟨hzl, hcase⟩ := hown
 rcases hcase with ⟨_, h9⟩ | ⟨g, cap, cur, rfl, hg0, hC, hnc, hmx, hcs2, htake⟩
 ·exact absurd h0 (by omega)
 have hnk : n * k ≤ cap * k := Nat.mul_le_mul_right _ hnc
 have hle2 : off + te.size ≤ n * k := by omega
 generalize hau : a.eval x = u at hrel
 cases hrel with
 | eptr _ _ _ h1 h2 =>
  obtain ⟨g', n', cap', h3, rfl⟩ := h2 _ hv
  cases h3
  have hdl : ds.length = te.size := by rw [← hl, hds, List.length_map]
  have hone : ∀ u ∈ (a.eval y).cells.toList, u.oneCell' = true := fun u hu => by
   obtain ⟨i, hi⟩ := List.mem_iff_getElem?.1 hu
   have hlt : i < xs.length := by rw [← hsz, ← Array.length_toList]; exact (List.getElem?_eq_some_iff.1 hi).1
   have hcc := hcr i xs[i] u (List.getElem?_eq_getElem hlt) (by simpa using hi)
   have hxi : xs[i] = .d (ds[i]'(by rw [hds] at hlt; simpa using hlt)) := by subst hds; simp
   rw [hxi] at hcc
   cases hcc with
   | d _ _ hdd => exact hdd.one
  have hrun := zch (w := w) (TO t te ht) hC (a.eval y) (by rw [hsz, hl]) (by rw [hcs2]; omega) hone (off := off)
  obtain ⟨hW, hnew⟩ := zaZ (C' := (setW cur.toList off (a.eval y).cells.toList).toArray) hC (v := .slice (some ⟨g, 0, none⟩) n cap) rfl
  have hlen : (a.eval y).cells.toList.length = xs.length := by simpa using hsz
  unfold Oper.wp
  have hrun2 : (execOp a.eval o).run P w = .ok .skip (w.setRow g (setW cur.toList off (a.eval y).cells.toList).toArray) := by
   simp [execOp, ho, Instr.storeAt, Instr.sureAddr, hau, hrun]
  rw [hrun2, Oper.upon_skip, hdst]
  have hcl : cur.toList.length = cap * k := by simpa using hcs2
  refine hK ι _ _ _ _ ⟨rfl, rfl⟩ ?_ ?_ (zl _ _ _)
  ·refine ⟨R.heap.wrote hW hv (⟨hvv, (setW cur.toList off (a.eval y).cells.toList).take (n * k), ⟨?_, .inr ⟨g, cap, _, rfl, hg0, hnew, hnc, hmx, ?_, rfl⟩⟩, ?_, fun i c' u h4 h5 => ?_⟩), (R.env.mono fun _ _ _ _ hv' => hv'.wrote hW hv).aput hd R.size .und, by rw [zl]; exact R.defers.ext (hW.ext hv), by rw [zac]; exact R.size⟩
   ·simp [setW]; omega
   ·simp [setW]; omega
   ·simp [setW]; omega
   ·rw [zak (by omega)] at h4
    rw [List.getElem?_take] at h5
    split at h5
    ·rename_i hin0
     rw [zak (by rw [hlen]; omega), hlen] at h5
     split at h4
     ·rename_i hin
      rw [if_pos (by omega)] at h5
      have := hcr (i - off) (.d c') u (by rw [hds, List.getElem?_map, h4]; rfl) (by simpa using h5)
      have := this.wrote hW hv
      cases this with
      | d _ _ hdd => exact hdd
     ·rename_i hin
      rw [if_neg (by omega)] at h5
      have := (VRel.d _ _ (hr i c' u h4 (by rw [← htake, List.getElem?_take, if_pos hin0]; exact h5))).wrote hW hv
      cases this with
      | d _ _ hdd => exact hdd
    ·cases h5
  ·exact ⟨⟨hW.os, hW.tape, hW.output, hW.size, fun r hr hne => hW.mem r hr fun hb => hne id (List.contains_iff_mem.1 hT) _ hv hb⟩, fun j _ u r hj hr _ => ⟨u, hj, hr⟩⟩
theorem zhF {t : TypeId} {x y : Operand} {id off s el k n : Nat} {cs ds : List Dat} {xs : List AVal} {c : AVal} {hh : Value} (hb : look h id = some (.rowx hh el k n cs)) (hle : off + s ≤ cs.length) (h0 : 0 < n) (TO : TabOk P tab) (hw : awant ops e o = some true) (hdst : o.dst = none) (ho : o.op = .store t x y) (hx : aev e x = some (.eptr id off))
  (hy : aev e y = some c) (hcs : cellsA c = some xs) (hds : datsA xs = some ds) (hs : tsize tab t = some s) (hl : Nat.beq xs.length s = true)
  (HK : AOps P nt ops Q rest e ((id, .rowx hh el k n (setW cs off ds)) :: h)) : AOps P nt ops Q (o :: rest) e h := by
 obtain ⟨te, h1, h2⟩ := zu hs
 subst h2
 exact zat (T := [id]) hw (zke TO ho hdst h1 hx hb hy hcs (zbQ hds) (Nat.eq_of_beq_eq_true hl) hle h0 rfl (by simp)) fun e' h' ⟨h1, h2⟩ => by subst h1 h2; exact HK

end
end Go.Proofs.YtmmdkjanmegjdaaGreat.Ab

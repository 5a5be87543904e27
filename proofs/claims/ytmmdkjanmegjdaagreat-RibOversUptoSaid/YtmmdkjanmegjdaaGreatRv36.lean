/-
 Texts of a proof, one behind the other (part 37).
-/
import Derived.Test.YtmmdkjanmegjdaaGreatRv2
import Derived.Test.YtmmdkjanmegjdaaGreatRv4
import Derived.Test.YtmmdkjanmegjdaaGreatRv26
import Derived.Test.YtmmdkjanmegjdaaGreatRv28
import Derived.Test.YtmmdkjanmegjdaaGreatRv30
import Derived.Test.YtmmdkjanmegjdaaGreatRv31
import Derived.Test.YtmmdkjanmegjdaaGreatRv33
import Derived.Test.YtmmdkjanmegjdaaGreatRv34
import Derived.Test.YtmmdkjanmegjdaaGreatRv35
set_option maxRecDepth 100000
set_option linter.unusedSimpArgs false
set_option linter.unusedVariables false
namespace Go.Proofs.YtmmdkjanmegjdaaGreat
theorem zj4 {κ ν : Type} [DecidableEq κ] {l : List (κ × ν)} {k : κ} {v : ν} (h : aget l k = none) : Go.Proofs.YtmmdkjanmegjdaaGreat.aput l k v = l ++ [(k, v)] := by
 unfold Go.Proofs.YtmmdkjanmegjdaaGreat.aput
 unfold aget at h
 cases hm : mget l k with
 | none => rfl
 | some x => rw [hm] at h; cases h
namespace Ab
open Go.RowKit Go.Lib
def tkA (x : TkR) : AVal := aggD (tkrD x)
abbrev rdssA (l : List Rds) : AVal := .d (.sl (l.flatMap rdsD) l.length)
def tkB (l : List (Pfx × TkR)) : ABlk := .map (ents pfxA tkA l)
def lkB (l : List Pfx) : ABlk := .map (ents pfxA intA (lkM l))
def zTV : List Value := [.int .i64 0, .int .u32 0, .int .i64 0, .int .i64 0, .int .i64 0, .int .i64 0, .slice none 0 0, .slice none 0 0, .int .u32 0]
def zTA : AVal := .agg (zTV.map fun v => .d (.sc v))
theorem zfQ (w : World) (F : Nat → Prop) (ι : Nat → Option Value) : VRel w F ι zTA (.agg zTV.toArray) := zaJ _ _ _ _ _ rfl rfl
theorem zeroTkn (W : World) : (zeroValue 52).run Tryz.prog W = .ok (.agg zTV.toArray) W := by
 have h : tlook tab 52 = some _ := rfl
 obtain ⟨z, h1, h2, i, h3, h4, _⟩ := (za _ _ h).zero W
 have h5 : (Tryz.prog.info? 52).bind (·.zero) = some (.agg zTV.toArray) := by kernel_rfl
 rw [h3] at h5
 simp only [Option.bind_some] at h5
 rw [h4] at h5
 cases h5
 exact h1
theorem zeroIntO (W : World) : (zeroValue 3).run Tryz.prog W = .ok (.int .i64 0) W := by
 have h : tlook tab 3 = some _ := rfl
 obtain ⟨z, h1, h2, i, h3, h4, _⟩ := (za _ _ h).zero W
 have h5 : (Tryz.prog.info? 3).bind (·.zero) = some (.int .i64 0) := by kernel_rfl
 rw [h3] at h5
 simp only [Option.bind_some] at h5
 rw [h4] at h5
 cases h5
 exact h1
theorem zcl (id : Nat) (l : List (Pfx × TkR)) : killB id (tkB l) = tkB l := by
 show ABlk.map ((l.map fun p => (pfxA p.1, tkA p.2)).map fun p => (killV id p.1, killV id p.2)) = _
 rw [List.map_map]; rfl
theorem zdv (id : Nat) (l : List Pfx) : killB id (lkB l) = lkB l := by
 show ABlk.map (((lkM l).map fun p => (pfxA p.1, intA p.2)).map fun p => (killV id p.1, killV id p.2)) = _
 rw [List.map_map]; rfl
theorem zlu (id : Nat) (ds : List Dat) (l : List (Pfx × TkR)) : fzB id ds (tkB l) = tkB l := by
 show ABlk.map ((l.map fun p => (pfxA p.1, tkA p.2)).map fun p => (fzV id ds p.1, fzV id ds p.2)) = _
 rw [List.map_map]; rfl
theorem zn9 (id : Nat) (ds : List Dat) (l : List Pfx) : fzB id ds (lkB l) = lkB l := by
 show ABlk.map (((lkM l).map fun p => (pfxA p.1, intA p.2)).map fun p => (fzV id ds p.1, fzV id ds p.2)) = _
 rw [List.map_map]; rfl
theorem zcD (id r clk : Nat) (bs : List Nat) (l : List (Pfx × TkR)) : killB id (.mapx r bs clk (ents pfxA tkA l)) = .mapx r bs clk (ents pfxA tkA l) := by
 show ABlk.mapx r bs clk ((l.map fun p => (pfxA p.1, tkA p.2)).map fun p => (killV id p.1, killV id p.2)) = _
 rw [List.map_map]; rfl
theorem ktx3 (i j k r clk : Nat) (bs : List Nat) (l : List (Pfx × TkR)) : some (killB i (killB j (killB k (.mapx r bs clk (ents pfxA tkA l))))) = some (.mapx r bs clk (ents pfxA tkA l)) := by rw [zcD, zcD, zcD]
theorem kt1 (i : Nat) (l : List (Pfx × TkR)) : some (killB i (tkB l)) = some (tkB l) := by rw [zcl]
theorem kt2 (i j : Nat) (l : List (Pfx × TkR)) : some (killB i (killB j (tkB l))) = some (tkB l) := by rw [zcl, zcl]
theorem kl1 (i : Nat) (l : List Pfx) : some (killB i (lkB l)) = some (lkB l) := by rw [zdv]
theorem kl2 (i j : Nat) (l : List Pfx) : some (killB i (killB j (lkB l))) = some (lkB l) := by rw [zdv, zdv]
theorem ktz (id : Nat) (ds : List Dat) (j k : Nat) (l : List (Pfx × TkR)) : some (fzB id ds (killB j (killB k (tkB l)))) = some (tkB l) := by rw [zcl, zcl, zlu]
theorem ktz1 (id : Nat) (ds : List Dat) (j : Nat) (l : List (Pfx × TkR)) : some (killB j (fzB id ds (tkB l))) = some (tkB l) := by rw [zlu, zcl]
theorem klz1 (id : Nat) (ds : List Dat) (j : Nat) (l : List Pfx) : some (killB j (fzB id ds (lkB l))) = some (lkB l) := by rw [zn9, zdv]
theorem zoR (ids : List Nat) (l : List (Pfx × TkR)) : killBs ids (tkB l) = tkB l := by
 show ABlk.map ((l.map fun p => (pfxA p.1, tkA p.2)).map fun p => (killVs ids p.1, killVs ids p.2)) = _
 rw [List.map_map]
 refine congrArg ABlk.map (List.map_congr_left fun p _ => ?_)
 show (killVs ids (pfxA p.1), killVs ids (tkA p.2)) = _
 rw [zaB fun j _ => rfl, zaB fun j _ => rfl]
theorem zoS (ids : List Nat) (l : List Pfx) : killBs ids (lkB l) = lkB l := by
 show ABlk.map (((lkM l).map fun p => (pfxA p.1, intA p.2)).map fun p => (killVs ids p.1, killVs ids p.2)) = _
 rw [List.map_map]
 refine congrArg ABlk.map (List.map_congr_left fun p _ => ?_)
 show (killVs ids (pfxA p.1), killVs ids (intA p.2)) = _
 rw [zaB fun j _ => rfl, zaB fun j _ => rfl]
theorem ktz3 (id : Nat) (ds : List Dat) (ids : List Nat) (j : Nat) (l : List (Pfx × TkR)) : some (killB j (killBs ids (fzB id ds (tkB l)))) = some (tkB l) := by rw [zlu, zoR, zcl]
theorem klz3 (id : Nat) (ds : List Dat) (ids : List Nat) (j : Nat) (l : List Pfx) : some (killB j (killBs ids (fzB id ds (lkB l)))) = some (lkB l) := by rw [zn9, zoS, zdv]
theorem ziP (l : List Pfx) (p : Pfx) : some (ABlk.map (ents pfxA intA (lkM l ++ [(p, (1 : Int))]))) = some (lkB (l ++ [p])) := by unfold lkB; rw [zle]
theorem zmw (l : List (Pfx × TkR)) (p : Pfx) (v : TkR) (h : aget l p = none) : some (ABlk.map (ents pfxA tkA (Go.Proofs.YtmmdkjanmegjdaaGreat.aput l p v))) = some (tkB (l ++ [(p, v)])) := by rw [zj4 h]; rfl
theorem zjl {d : Dvc} {nm : List UInt8} (w : World) (F : Nat → Prop) (ι : Nat → Option Value) (us : Array Value) (H : ArgsRel w F ι [dvcA d, .d (sD nm), .agg sbjZ] us) : ArgsRel w F ι [dvcA d, .d (sD nm), aggD (sbjD zeroS)] us :=
 ⟨H.1, fun i c u h1 h2 => by
  match i, h1 with
  | 0, h1 => exact H.2 0 c u h1 h2
  | 1, h1 => exact H.2 1 c u h1 h2
  | 2, h1 => cases h1; exact zkE w F ι u (H.2 2 _ u rfl h2)
  | i + 3, h1 => cases h1⟩
def seenO (bs js : List Nat) : Array Nat := (js.map fun j => bs.getD j 0).toArray
theorem zeH (bs js : List Nat) (j b : Nat) (hb : bs[j]? = some b) : (seenO bs js).push b = seenO bs (js ++ [j]) := by
 unfold seenO
 simp [hb]
theorem zfp (bs js : List Nat) (hp : bs.Pairwise fun a b => a < b) (hl : ∀ j ∈ js, j < bs.length) (j b : Nat) (hb : bs[j]? = some b) : (seenO bs js).contains b = true ↔ j ∈ js := by
 unfold seenO
 rw [Array.contains_iff_mem]
 simp only [List.mem_toArray, List.mem_map]
 have hjl := (List.getElem?_eq_some_iff.1 hb)
 constructor
 ·rintro ⟨i, hi, hib⟩
  have hil := hl i hi
  rw [show bs.getD i 0 = bs[i] by simp [List.getElem?_eq_getElem hil]] at hib
  have hpw := List.pairwise_iff_getElem.1 hp
  rcases Nat.lt_trichotomy i j with h1 | h1 | h1
  ·have := hpw i j hil hjl.1 h1; rw [hjl.2] at this; omega
  ·rw [← h1]; exact hi
  ·have := hpw j i hjl.1 hil h1; rw [hjl.2] at this; omega
 ·intro hj
  exact ⟨j, hj, by simp [hb]⟩
theorem zh2 {js : List Nat} {n : Nat} (hn : js.Nodup) (hl : ∀ j ∈ js, j < n) : js.length ≤ n := by
 have := hn.length_le_of_subset (l₂ := List.range n) fun j hj => List.mem_range.2 (hl j hj)
 simpa using this
theorem zd0 {a b p i : Nat} (h : look [(a, b)] p = some i) : p = a ∧ i = b := by
 by_cases hp : a = p
 ·subst hp; rw [ze] at h; cases h; exact ⟨rfl, rfl⟩
 ·rw [zc _ _ hp] at h; cases h
theorem ACall.args {P : Program} {f : FuncId} {cs cs' : List AVal} {h : Heap} {R : AVal → Heap → Prop} (H : ACall P f cs h R) (hs : ∀ w F ι us, ArgsRel w F ι cs' us → ArgsRel w F ι cs us) : ACall P f cs' h R :=
 ⟨H.1, fun Pm F w0 pin ι us w a b => H.2 Pm F w0 pin ι us w a (hs w F ι us b)⟩
theorem zpq {P : Program} {nt : Nat} {Q : Post} {e : Env} {h : Heap} {z : Bool} {c y : Code} (E1 : Env) (H1 : Heap) (h1 : AWp z P nt c (AThen (fun e' h' => AWk nt e' h' E1 H1) RF) e h) (h2 : AWp z P nt y Q E1 H1) : AWp z P nt c (AThen (AWp z P nt y Q) Q) e h :=
 h1.mono fun ex e h hq => by
  cases ex with
  | normal => exact zt hq h2
  | _ => exact False.elim hq
abbrev tR (l : List (Pfx × TkR)) : List (Pfx × Tkn) := l.map fun e => (e.1, e.2.t)
abbrev fR (l : List (Pfx × TkR)) : Heap := famT (l.map (·.2)) 300
theorem zfL {κ ν : Type} [DecidableEq κ] (k : κ) (v : ν) (r : List (κ × ν)) (p : κ) : aget ((k, v) :: r) p = if p = k then some v else aget r p := by
 unfold aget
 rw [mget]
 split
 ·rfl
 ·cases mget r p <;> rfl
theorem zkr (l : List (Pfx × TkR)) (p : Pfx) : aget (tR l) p = (aget l p).map (·.t) := by
 induction l with
 | nil => rfl
 | cons a r ih =>
  obtain ⟨k, v⟩ := a
  show aget ((k, v.t) :: tR r) p = _
  rw [zfL, zfL, ih]
  split <;> rfl
theorem ziI {a b bl : ABlk} {id : Nat} (h : look [(903, a), (904, b)] id = some bl) : (id = 903 ∧ bl = a) ∨ (id = 904 ∧ bl = b) := by
 by_cases h1 : 903 = id
 ·subst h1; rw [ze] at h; cases h; exact .inl ⟨rfl, rfl⟩
 ·rw [zc _ _ h1] at h
  by_cases h2 : 904 = id
  ·subst h2; rw [ze] at h; cases h; exact .inr ⟨rfl, rfl⟩
  ·rw [zc _ _ h2] at h; cases h
theorem zmy (l : List (Pfx × TkR)) : (tR l).map (·.1) = l.map (·.1) := by rw [List.map_map]; rfl
theorem zo5 (l : List (Pfx × TkR)) (j : Nat) : blkHas j (tkB l) = false := by
 show (List.any _ _) = false
 rw [List.any_eq_false]
 intro p hp
 obtain ⟨q, _, rfl⟩ := List.mem_map.1 hp
 intro h; cases h
theorem zo6 (l : List Pfx) (j : Nat) : blkHas j (lkB l) = false := by
 show (List.any _ _) = false
 rw [List.any_eq_false]
 intro p hp
 obtain ⟨q, _, rfl⟩ := List.mem_map.1 hp
 intro h; cases h
attribute [local irreducible] AWp AOps AQ AYield AEff ACall AWk AAny AAt AThen AIn APost NoPanic
structure OkO (d : Dvc) (l : List Rds) (rs : List Rte) : Prop where
 ln : l.length ≤ 1000000
 rn : rs.length ≤ 1000000
 ok : ∀ r ∈ rs, okR r
 ap : ∀ s : Sbj, s.p.ok → s.path = [] → s.com = [] → OkA d s
theorem zki : (⟨0, 0⟩ : Pfx).ok := by unfold Pfx.ok; decide
def ovE (d : Dvc) (l : List Rds) (R : List Rte) (ospf : Bool) (i : Nat) : Env := [(1, rdssA l), (2, rtesA R), (3, boolA ospf), (4, .iptr (dvcD d) 0), (15, .mp 903), (51, rdssA l), (52, natA l.length), (53, natA i)]
def ovF (d : Dvc) (l : List Rds) (R : List Rte) (ospf : Bool) (i : Nat) (x : Rds) (k : Nat) : Env := [(1, rdssA l), (2, rtesA R), (3, boolA ospf), (4, .iptr (dvcD d) 0), (15, .mp 903), (16, natA i), (17, .iptr (rdsD x) 0), (18, .mp 904), (51, rdssA l), (52, natA l.length), (53, natA i), (59, rtesA R), (60, natA R.length), (61, natA k)]
theorem zfA {α : Type} {l : List (Nat × α)} {t : Nat} {c : α} (h : look l t = some c) : (t, c) ∈ l := by
 induction l with
 | nil => cases h
 | cons p r ih =>
  obtain ⟨k, d⟩ := p
  by_cases hk : k = t
  ·subst hk; rw [ze] at h; cases h; exact List.mem_cons_self ..
  ·rw [zc _ _ hk] at h; exact List.mem_cons_of_mem _ (ih h)
theorem zmZ {d : Dvc} {l : List Rds} {R : List Rte} {ospf : Bool} {i : Nat} {x : Rds} {k t : Nat} {c : AVal} (h : look (ovF d l R ospf i x k) t = some c) {j : Nat} (h1 : 300 ≤ j) (h2 : j < 600) : c.has j = false := by
 have hm := zfA h
 simp only [ovF, List.mem_cons, Prod.mk.injEq, List.not_mem_nil, or_false] at hm
 rcases hm with ⟨_, rfl⟩ | ⟨_, rfl⟩ | ⟨_, rfl⟩ | ⟨_, rfl⟩ | ⟨_, rfl⟩ | ⟨_, rfl⟩ | ⟨_, rfl⟩ | ⟨_, rfl⟩ | ⟨_, rfl⟩ | ⟨_, rfl⟩ | ⟨_, rfl⟩ | ⟨_, rfl⟩ | ⟨_, rfl⟩ | ⟨_, rfl⟩ <;> first | rfl | (show (903 == j) = false; simp; omega) | (show (904 == j) = false; simp; omega)
set_option maxHeartbeats 64000000 in
theorem zkN (d : Dvc) (l : List Rds) (rs : List Rte) (ospf : Bool) (hok : OkO d l rs) (h140 : rs.length ≤ 140) : ACall Tryz.prog 6 [dvcA d, rdssA l, rtesA rs, boolA ospf] [] (fun c h => ∃ L : List TkR, L.map (·.t) = (overR d l rs ospf).1 ∧ c = .tup [.row 27, .d (iD (overR d l rs ospf).2)] ∧ h = (27, tkrB L) :: famT L 300) := by
 have hl := hok.ln
 have hrl := hok.rn
 refine zf za Tryz.func6 rfl Tryz.ntmps6 (congrArg Array.toList Tryz.results6) (by kernel_rfl) rfl ?_
 refine z7 ?_
 refine zab ?_
 refine q_d ?_
 refine zB (zG (id := 4) (ds := dvcD d) rfl rfl) ?_
 repeat ((fail_if_success refine zb ?_); first | refine q_Y ?_ | ((first | apply q_K rfl | apply q_X rfl); (exact q_G)) | refine q_U ?_)
 try refine zS ?_
 refine zw (fun k : Nat => [(1, rdssA l), (2, rtesA rs), (3, boolA ospf), (4, .iptr (dvcD d) 0), (8, .d (.sc (.slice none 0 0))), (9, .d (iD 0)), (30, rdssA l), (31, natA l.length), (32, natA k)]) (fun _ => []) (fun k => k ≤ l.length ∧ errR d (l.take k) = false) (fun k => l.length - k) 0 ⟨Nat.zero_le _, rfl⟩ (q_S) ?_
 rintro k ⟨hk, he⟩
 try dsimp only
 by_cases hkl : k < l.length
 ·have hw := zn zcB l k 4 hkl (by decide)
  have hz := hok.ap zeroS zki rfl rfl
  have ca := ziX d l[k].pol zeroS hz
  have hnx : errR d (l.take (k + 1)) = (errR d (l.take k) || decide ((applyP d l[k].pol zeroS).2.2 ≠ 0)) := by
   unfold errR
   rw [List.take_succ_eq_append_getElem hkl, List.any_append]; simp
  have hall : (applyP d l[k].pol zeroS).2.2 ≠ 0 → errR d l = true := fun h => by
   unfold errR
   exact List.any_eq_true.2 ⟨l[k], List.getElem_mem hkl, decide_eq_true h⟩
  have h120 : (applyP d l[k].pol zeroS).2.2 = 0 ∨ (applyP d l[k].pol zeroS).2.2 ≠ 0 := Classical.em _
  rw [he, Bool.false_or] at hnx
  obtain ⟨x, hx⟩ : ∃ x, l[k] = x := ⟨_, rfl⟩
  rw [hx] at hw ca hnx hall h120
  have ca := ca.args (zjl (d := d) (nm := x.pol))
  obtain ⟨⟨A, ok, er⟩, hA⟩ : ∃ t, applyP d x.pol zeroS = t := ⟨_, rfl⟩
  rw [hA] at ca hnx hall h120
  dsimp only at ca hnx hall h120
  rcases h120 with h0 | h0
  ·subst h0
   rw [decide_eq_false (by simp)] at hnx
   repeat ((fail_if_success refine zb ?_); first | refine q_Y ?_ | ((first | apply q_K rfl | apply q_X rfl); (first | exact q_F | (first | exact q_A | exact q_R (w := hw) | exact q_B | (first | exact q_5 | exact q_I k hkl)))) | refine q_U ?_ | refine q_O ca ?_)
   exact ⟨k + 1, ⟨hkl, hnx⟩, by omega, q_S⟩
  ·have hov : overR d l rs ospf = ([], 120) := by unfold overR; rw [if_pos (hall h0)]
   rw [hov]
   repeat ((fail_if_success refine zb ?_); first | refine q_Y ?_ | ((first | apply q_K rfl | apply q_X rfl); (first | exact q_F | (first | exact q_A | exact q_R (w := hw) | exact q_B | (first | exact q_5 | exact q_I k hkl)))) | refine q_U ?_ | refine q_O ca ?_)
   exact zo (zbn 52 9 (t := 8) (id := 27) rfl rfl) rfl (h2 := [(27, tkrB [])]) ⟨rfl, trivial⟩ ⟨[], rfl, rfl, rfl⟩
 obtain rfl : k = l.length := by omega
 rw [List.take_length] at he
 have hov : overR d l rs ospf = (takenL (outR d ospf (sortU ordR rs) l 0 []), 0) := by unfold overR; rw [if_neg (by rw [he]; simp)]
 rw [hov]
 have hso := zhQ rs (by omega)
 have hRm : ∀ r ∈ sortU ordR rs, okR r := fun r hr => hok.ok r ((zay _ _).1 hr)
 have hRl : (sortU ordR rs).length ≤ 140 := Nat.le_trans (zbi rs) h140
 obtain ⟨R, hR⟩ : ∃ R, sortU ordR rs = R := ⟨_, rfl⟩
 rw [hR] at hso hRm hRl ⊢
 clear hov hR
 obtain ⟨FIN, hFIN⟩ : ∃ F, outR d ospf R l 0 [] = F := ⟨_, rfl⟩
 rw [hFIN]
 repeat ((fail_if_success refine zb ?_); first | refine q_Y ?_ | ((first | apply q_K rfl | apply q_X rfl); (exact q_G)) | refine q_U ?_ | first | (refine zc1 903 rfl rfl rfl rfl rfl ?_) | (refine zbh rfl rfl rfl rfl rfl hso rfl ?_))
 refine zt (zF (id := 5) rfl) ?_
 try refine zS ?_
 refine zw (fun x : Nat × List (Pfx × TkR) => ovE d l R ospf x.1) (fun x => [(903, tkB x.2)] ++ fR x.2) (fun x => x.1 ≤ l.length ∧ Ents (tR x.2) ∧ (∀ e ∈ tR x.2, ∃ r ∈ R, r.p = e.1) ∧ outR d ospf R (l.drop x.1) x.1 (tR x.2) = FIN) (fun x => l.length - x.1) (0, []) ⟨Nat.zero_le _, zdD, by simp, hFIN⟩ (by dsimp only; exact q_S (h1 := [(903, tkB [])]) (e1 := ovE d l R ospf 0)) ?_
 have hEl := fun (tk : List (Pfx × TkR)) (hE : Ents (tR tk)) (hM : ∀ e ∈ tR tk, ∃ r ∈ R, r.p = e.1) => (by have := zhe hE hM; rw [List.length_map] at this; omega : tk.length ≤ 140)
 rintro ⟨i, tk⟩ ⟨hi, hE, hM, hF⟩
 try dsimp only at hi hE hM hF ⊢
 by_cases hil : i < l.length
 ·have hw := zn zcB l i 4 hil (by decide)
  rw [List.drop_eq_getElem_cons hil, outR] at hF
  obtain ⟨x, hx⟩ : ∃ x, l[i] = x := ⟨_, rfl⟩
  rw [hx] at hw hF
  clear hx
  obtain ⟨TK, hTK⟩ : ∃ T, inR d x i ospf R (tR tk) [] = T := ⟨_, rfl⟩
  have htl := hEl tk hE hM
  rw [hTK] at hF
  unfold ovE
  repeat ((fail_if_success refine zb ?_); first | refine q_Y ?_ | ((first | apply q_K rfl | apply q_X rfl); (first | exact q_F | (first | exact q_A | exact q_R (w := hw) | exact q_B | (first | exact q_5 | exact q_I i hil)))) | refine q_U ?_ | (refine zc1 904 rfl rfl rfl rfl rfl ?_))
  refine zt (zG (id := 17) (ds := rdsD x) rfl rfl) ?_
  try refine zS ?_
  refine zw (fun y : Nat × List (Pfx × TkR) × List Pfx => ovF d l R ospf i x y.1) (fun y => [(903, tkB y.2.1), (904, lkB y.2.2)] ++ fR y.2.1) (fun y => y.1 ≤ R.length ∧ Ents (tR y.2.1) ∧ (∀ e ∈ tR y.2.1, ∃ r ∈ R, r.p = e.1) ∧ y.2.2.Nodup ∧ inR d x i ospf (R.drop y.1) (tR y.2.1) y.2.2 = TK) (fun y => R.length - y.1) (0, tk, []) ⟨Nat.zero_le _, hE, hM, .nil, hTK⟩
   (zaf ⟨rfl, rfl, rfl, rfl, rfl, rfl, rfl, rfl, rfl, rfl, rfl, rfl, rfl, rfl, trivial⟩ ⟨ktz _ _ _ _ _, rfl, trivial⟩ (zX (by rw [List.length_map]; (try dsimp only); omega) fun j b h1 h2 hx hb => by repeat (first | exact hb | refine zaq (by decide) h1 h2 ?_ | refine zai (by decide) h1 h2 hx ?_ | refine zaT (by decide) h1 h2 hx ?_ | refine zY (ks := [21, 22]) (by decide) h1 h2 hx ?_ | refine zaU (by decide) h1 h2 hx ?_)) ) ?_
  clear hE hM hTK htl
  rintro ⟨k, tk, lk⟩ ⟨hk, hE, hM, hN, hI⟩
  try dsimp only at hk hE hM hN hI ⊢
  have htl := hEl tk hE hM
  have hEn : (tk.map (·.1)).Nodup := by rw [← zmy]; exact hE.nd
  by_cases hkl : k < R.length
  ·have hrm : R[k] ∈ R := List.getElem_mem hkl
   have hkr := hRm _ hrm
   have hw2 := zn zr R k 9 hkl (by decide)
   have hcom := znr R[k] x.from_ hkr.1
   rw [List.drop_eq_getElem_cons hkl, inR] at hI
   obtain ⟨r, hr⟩ : ∃ r, R[k] = r := ⟨_, rfl⟩
   rw [hr] at hw2 hcom hI hkr hrm
   clear hr
   unfold ovF
   cases hag : aget tk r.p with
   | some v =>
    rw [if_pos (.inl (by rw [zkr, hag]; rfl))] at hI
    repeat ((fail_if_success refine zb ?_); first | refine q_Y ?_ | ((first | apply q_K rfl | apply q_X rfl); (first | exact q_F | (first | exact q_A | exact q_R (w := hw2) | exact q_B | (first | exact q_5 | exact q_I k hkl | exact zd8 (k := r.p) (xa := tkA) pfxKey zq zeroTkn trivial (fun _ _ => trivial) hEn hag za rfl rfl rfl (kt1 20 tk) rfl rfl)))) | refine q_U ?_)
    exact ⟨(k + 1, tk, lk), ⟨hkl, hE, hM, hN, hI⟩, by (try dsimp only); omega, zaf ⟨rfl, rfl, rfl, rfl, rfl, rfl, rfl, rfl, rfl, rfl, rfl, rfl, rfl, rfl, trivial⟩ ⟨kt2 _ _ _, kl2 _ _ _, trivial⟩ (zX (by rw [List.length_map]; (try dsimp only); omega) fun j b h1 h2 hx hb => by repeat (first | exact hb | refine zaq (by decide) h1 h2 ?_ | refine zai (by decide) h1 h2 hx ?_ | refine zaT (by decide) h1 h2 hx ?_ | refine zY (ks := [21, 22]) (by decide) h1 h2 hx ?_ | refine zaU (by decide) h1 h2 hx ?_)) ⟩
   | none =>
    cases hcb : comesB r.f x.from_ with
    | false =>
     rw [if_pos (.inr (.inl hcb))] at hI
     rw [hcb] at hcom
     repeat ((fail_if_success refine zb ?_); first | refine q_Y ?_ | ((first | apply q_K rfl | apply q_X rfl); (first | exact q_F | (first | exact q_A | exact q_R (w := hw2) | exact q_B | (first | exact q_5 | exact q_I k hkl | exact zdJ (k := r.p) (xa := tkA) zTA zfQ pfxKey zq zeroTkn trivial (fun _ _ => trivial) hEn hag za rfl rfl rfl (kt1 20 tk) rfl rfl)))) | refine q_U ?_ | refine q_O hcom ?_)
     exact ⟨(k + 1, tk, lk), ⟨hkl, hE, hM, hN, hI⟩, by (try dsimp only); omega, zaf ⟨rfl, rfl, rfl, rfl, rfl, rfl, rfl, rfl, rfl, rfl, rfl, rfl, rfl, rfl, trivial⟩ ⟨kt2 _ _ _, kl2 _ _ _, trivial⟩ (zX (by rw [List.length_map]; (try dsimp only); omega) fun j b h1 h2 hx hb => by repeat (first | exact hb | refine zaq (by decide) h1 h2 ?_ | refine zai (by decide) h1 h2 hx ?_ | refine zaT (by decide) h1 h2 hx ?_ | refine zY (ks := [21, 22]) (by decide) h1 h2 hx ?_ | refine zaU (by decide) h1 h2 hx ?_)) ⟩
    | true =>
     rw [hcb] at hcom
     by_cases hlk : r.p ∈ lk
     ·rw [if_pos (.inr (.inr hlk))] at hI
      repeat ((fail_if_success refine zb ?_); first | refine q_Y ?_ | ((first | apply q_K rfl | apply q_X rfl); (first | exact q_F | (first | exact q_A | exact q_R (w := hw2) | exact q_B | (first | exact q_5 | exact q_I k hkl | exact zdJ (k := r.p) (xa := tkA) zTA zfQ pfxKey zq zeroTkn trivial (fun _ _ => trivial) hEn hag za rfl rfl rfl (kt1 20 tk) rfl rfl | exact zaw (k := r.p) (xa := intA) pfxKey zq zeroIntO trivial (fun _ _ => trivial) (by rw [zdu]; exact hN) (zoP hN hlk) za rfl rfl rfl (kl2 21 20 lk) rfl rfl)))) | refine q_U ?_ | refine q_O hcom ?_)
      exact ⟨(k + 1, tk, lk), ⟨hkl, hE, hM, hN, hI⟩, by (try dsimp only); omega, zaf ⟨rfl, rfl, rfl, rfl, rfl, rfl, rfl, rfl, rfl, rfl, rfl, rfl, rfl, rfl, trivial⟩ ⟨kt2 _ _ _, kl2 _ _ _, trivial⟩ (zX (by rw [List.length_map]; (try dsimp only); omega) fun j b h1 h2 hx hb => by repeat (first | exact hb | refine zaq (by decide) h1 h2 ?_ | refine zai (by decide) h1 h2 hx ?_ | refine zaT (by decide) h1 h2 hx ?_ | refine zY (ks := [21, 22]) (by decide) h1 h2 hx ?_ | refine zaU (by decide) h1 h2 hx ?_)) ⟩
     ·have hagT : aget (tR tk) r.p = none := by rw [zkr, hag]; rfl
      rw [if_neg (by rw [hagT, hcb]; simp [hlk])] at hI
      have hNk : ((lkM lk).map (·.1)).Nodup := by rw [zdu]; exact hN
      have hout := zm8 hlk
      repeat ((fail_if_success refine zb ?_); first | refine q_Y ?_ | ((first | apply q_K rfl | apply q_X rfl); (first | exact q_F | (first | exact q_A | exact q_R (w := hw2) | exact q_B | (first | exact q_5 | exact q_I k hkl | exact zdJ (k := r.p) (xa := tkA) zTA zfQ pfxKey zq zeroTkn trivial (fun _ _ => trivial) hEn hag za rfl rfl rfl (kt1 20 tk) rfl rfl | exact zoe (k := r.p) (xa := intA) (intA 0) (fun _ _ _ => zH rfl) pfxKey zq zeroIntO trivial (fun _ _ => trivial) hNk hout za rfl rfl rfl (kl2 21 20 lk) rfl rfl)))) | refine q_U ?_ | refine q_O hcom ?_)
      have hnd0 : ((lkM lk ++ [(r.p, (0 : Int))]).map (·.1)).Nodup := by
       rw [List.map_append, zdu]
       exact List.nodup_append.2 ⟨hN, by simp, fun a ha b hb => by simp at hb; subst hb; intro e; exact hlk (e ▸ ha)⟩
      have hin0 : aget (lkM lk ++ [(r.p, (0 : Int))]) r.p = some 0 := zaa hnd0 (by simp)
      have hlk2 : (lk ++ [r.p]).Nodup := List.nodup_append.2 ⟨hN, by simp, fun a ha b hb => by simp at hb; subst hb; intro e; exact hlk (e ▸ ha)⟩
      refine zt (zaf (e1 := (20, .ptr 20 0) :: ovF d l R ospf i x k) (h1 := [(20, rteB1 r), (903, tkB tk), (904, lkB lk)]) (G := fR tk) ⟨rfl, rfl, rfl, rfl, rfl, rfl, rfl, rfl, rfl, rfl, rfl, rfl, rfl, rfl, rfl, trivial⟩ ⟨rfl, kt2 _ _ _, kl2 _ _ _, trivial⟩ (zX (by rw [List.length_map]; (try dsimp only); omega) fun j b h1 h2 hx hb => by repeat (first | exact hb | refine zaq (by decide) h1 h2 ?_ | refine zai (by decide) h1 h2 hx ?_ | refine zaT (by decide) h1 h2 hx ?_ | refine zY (ks := [21, 22]) (by decide) h1 h2 hx ?_ | refine zaU (by decide) h1 h2 hx ?_)) ) ?_
      refine zpq ((20, .ptr 20 0) :: ovF d l R ospf i x k) ([(20, rteB1 r), (903, tkB tk), (904, lkB (lk ++ [r.p]))] ++ fR tk) ?_ ?_
      ·refine zA [904] mixed ?_
       apply q_P 0 rfl (by kernel_rfl) rfl rfl rfl
       exact q_1
       apply q_P 1 rfl (by kernel_rfl) rfl rfl rfl
       exact q_8
       apply q_P 2 rfl (by kernel_rfl) rfl rfl rfl
       exact q_7
       refine zcf (j := 3) (k := 5) (by kernel_rfl) ?_ ?_
       ·refine zP rfl rfl rfl rfl (zoe (k := r.p) (xa := intA) (intA 0) (fun _ _ _ => zH rfl) pfxKey zq zeroIntO trivial (fun _ _ => trivial) hNk hout za rfl rfl rfl rfl rfl rfl) ?_
        apply q_P 4 rfl (by kernel_rfl) rfl rfl rfl
        (first | exact q_H | fail)
        refine zd (j := 5) (by kernel_rfl) ?_
        refine zep (k := r.p) (xa := intA) (z := (0 : Int)) pfxKey zq zbN zeroIntO (fun _ _ _ => zH rfl) trivial (fun _ _ => trivial) hNk hout za rfl rfl rfl rfl rfl rfl rfl rfl rfl rfl fun br bbs bb bc hbl => ?_
        apply q_P 6 rfl (by kernel_rfl) rfl rfl rfl
        exact q_14
        refine zd (j := 7) (by kernel_rfl) ?_
        refine zc6 (z' := (1 : Int)) hbl rfl rfl rfl rfl rfl rfl rfl rfl rfl ?_
        refine zz (by kernel_rfl) ?_
        refine q_j ?_
        exact zaf ⟨rfl, rfl, rfl, rfl, rfl, rfl, rfl, rfl, rfl, rfl, rfl, rfl, rfl, rfl, rfl, trivial⟩ ⟨rfl, rfl, ziP _ _, trivial⟩ (zX (by rw [List.length_map]; (try dsimp only); omega) fun j b h1 h2 hx hb => by repeat (first | exact hb | refine zaq (by decide) h1 h2 ?_ | refine zai (by decide) h1 h2 hx ?_ | refine zaT (by decide) h1 h2 hx ?_ | refine zY (ks := [21, 22]) (by decide) h1 h2 hx ?_ | refine zaU (by decide) h1 h2 hx ?_)) 
       ·refine zep (k := r.p) (xa := intA) (z := (0 : Int)) pfxKey zq zbN zeroIntO (fun _ _ _ => zH rfl) trivial (fun _ _ => trivial) hNk hout za rfl rfl rfl rfl rfl rfl rfl rfl rfl rfl fun br bbs bb bc hbl => ?_
        apply q_P 6 rfl (by kernel_rfl) rfl rfl rfl
        exact q_14
        refine zd (j := 3) (by kernel_rfl) ?_
        refine zP rfl rfl rfl rfl (zpe pfxKey zq zeroIntO trivial (fun _ _ => trivial) hnd0 hin0 za rfl rfl rfl rfl rfl rfl) ?_
        apply q_P 4 rfl (by kernel_rfl) rfl rfl rfl
        (first | exact q_H | fail)
        refine zd (j := 7) (by kernel_rfl) ?_
        refine zc6 (z' := (1 : Int)) hbl rfl rfl rfl rfl rfl rfl rfl rfl rfl ?_
        refine zz (by kernel_rfl) ?_
        refine q_j ?_
        exact zaf ⟨rfl, rfl, rfl, rfl, rfl, rfl, rfl, rfl, rfl, rfl, rfl, rfl, rfl, rfl, rfl, trivial⟩ ⟨rfl, rfl, ziP _ _, trivial⟩ (zX (by rw [List.length_map]; (try dsimp only); omega) fun j b h1 h2 hx hb => by repeat (first | exact hb | refine zaq (by decide) h1 h2 ?_ | refine zai (by decide) h1 h2 hx ?_ | refine zaT (by decide) h1 h2 hx ?_ | refine zY (ks := [21, 22]) (by decide) h1 h2 hx ?_ | refine zaU (by decide) h1 h2 hx ?_)) 
      obtain ⟨mm, hmm⟩ : ∃ m, (if x.met ≠ -1 then x.met else if ospf then 20 else r.m) = m := ⟨_, rfl⟩
      have hs : subjR x ospf r = ⟨r.p, mm, r.t, 100, [], [], 0⟩ := by unfold subjR; rw [hmm]
      have hap := hok.ap (subjR x ospf r) hkr.2 rfl rfl
      rw [hs] at hap hI
      have ca := ziX d x.pol ⟨r.p, mm, r.t, 100, [], [], 0⟩ hap
      have cH := zlX d x.pol ⟨r.p, mm, r.t, 100, [], [], 0⟩ hap
      have hAp : (applyP d x.pol ⟨r.p, mm, r.t, 100, [], [], 0⟩).2.1 = true → (applyP d x.pol ⟨r.p, mm, r.t, 100, [], [], 0⟩).1.p = r.p := fun h => zdH h
      obtain ⟨⟨A, okk, er⟩, hA⟩ : ∃ t, applyP d x.pol ⟨r.p, mm, r.t, 100, [], [], 0⟩ = t := ⟨_, rfl⟩
      rw [hA] at ca hI hAp
      dsimp only at ca hI hAp
      refine z7 ?_
      refine zab ?_
      (apply O_y rfl rfl rfl; (exact q_8))
      (apply O_y rfl rfl rfl; (exact q_7))
      (apply O_y rfl rfl rfl; (exact q_4))
      (apply O_y rfl rfl rfl; (exact q_5))
      (apply O_y rfl rfl rfl; (exact q_8))
      (apply O_y rfl rfl rfl; (exact q_7))
      (apply O_y rfl rfl rfl; (exact zi1 (xs := [.d (uD r.p.a), .d (iD r.p.b), .d (iD x.met), .d (iD r.t), .d (iD 100), .d (.sc (.slice none 0 0)), .d (.sc (.slice none 0 0)), .d (uD 0)]) za rfl rfl rfl rfl rfl (by kernel_rfl)))
      refine q_a ?_
      refine zi2 za rfl rfl rfl rfl rfl rfl rfl (by kernel_rfl) rfl (by kernel_rfl) (by kernel_rfl) ?_
      refine zcv ?_
      refine q_j ?_
      refine zt (zaf (e1 := (23, .ptr 23 0) :: (20, .ptr 20 0) :: ovF d l R ospf i x k) (h1 := [(23, .var [.d (uD r.p.a), .d (iD r.p.b), .d (iD x.met), .d (iD r.t), .d (iD 100), .d (.sc (.slice none 0 0)), .d (.sc (.slice none 0 0)), .d (uD 0)]), (20, rteB1 r), (903, tkB tk), (904, lkB (lk ++ [r.p]))]) (G := fR tk) ⟨rfl, rfl, rfl, rfl, rfl, rfl, rfl, rfl, rfl, rfl, rfl, rfl, rfl, rfl, rfl, rfl, trivial⟩ ⟨by kernel_rfl, rfl, kt1 _ _, kl1 _ _, trivial⟩ (zX (by rw [List.length_map]; (try dsimp only); omega) fun j b h1 h2 hx hb => by repeat (first | exact hb | refine zaq (by decide) h1 h2 ?_ | refine zai (by decide) h1 h2 hx ?_ | refine zaT (by decide) h1 h2 hx ?_ | refine zY (ks := [21, 22]) (by decide) h1 h2 hx ?_ | refine zaU (by decide) h1 h2 hx ?_)) ) ?_
      refine zaH ((23, .ptr 23 0) :: (20, .ptr 20 0) :: ovF d l R ospf i x k) ([(23, .var ((sbjD ⟨r.p, mm, r.t, 100, [], [], 0⟩).map .d)), (20, rteB1 r), (903, tkB tk), (904, lkB (lk ++ [r.p]))] ++ fR tk) ?_ ?_
      ·unfold ovF
       by_cases hm : x.met = -1
       ·rw [if_neg (fun h => h hm)] at hmm
        cases ospf with
        | true =>
         rw [if_pos rfl] at hmm
         subst hmm
         repeat ((fail_if_success refine zb ?_); first | refine q_Y ?_ | ((first | apply q_K rfl | apply q_X rfl); (exact q_G)) | refine q_U ?_)
         exact (zdI (b := 23) rfl).trans (zaf ⟨rfl, rfl, rfl, rfl, rfl, rfl, rfl, rfl, rfl, rfl, rfl, rfl, rfl, rfl, rfl, rfl, trivial⟩ ⟨rfl, rfl, rfl, rfl, trivial⟩ (zX (by rw [List.length_map]; (try dsimp only); omega) fun j b h1 h2 hx hb => by repeat (first | exact hb | refine zaq (by decide) h1 h2 ?_ | refine zai (by decide) h1 h2 hx ?_ | refine zaT (by decide) h1 h2 hx ?_ | refine zY (ks := [21, 22]) (by decide) h1 h2 hx ?_ | refine zaU (by decide) h1 h2 hx ?_)) )
        | false =>
         rw [if_neg (by decide)] at hmm
         subst hmm
         repeat ((fail_if_success refine zb ?_); first | refine q_Y ?_ | ((first | apply q_K rfl | apply q_X rfl); (exact q_G)) | refine q_U ?_)
         exact (zdI (b := 23) rfl).trans (zaf ⟨rfl, rfl, rfl, rfl, rfl, rfl, rfl, rfl, rfl, rfl, rfl, rfl, rfl, rfl, rfl, rfl, trivial⟩ ⟨rfl, rfl, rfl, rfl, trivial⟩ (zX (by rw [List.length_map]; (try dsimp only); omega) fun j b h1 h2 hx hb => by repeat (first | exact hb | refine zaq (by decide) h1 h2 ?_ | refine zai (by decide) h1 h2 hx ?_ | refine zaT (by decide) h1 h2 hx ?_ | refine zY (ks := [21, 22]) (by decide) h1 h2 hx ?_ | refine zaU (by decide) h1 h2 hx ?_)) )
       ·rw [if_pos hm] at hmm
        subst hmm
        repeat ((fail_if_success refine zb ?_); first | refine q_Y ?_ | ((first | apply q_K rfl | apply q_X rfl); (exact q_G)) | refine q_U ?_)
        exact (zdI (b := 23) rfl).trans (zaf ⟨rfl, rfl, rfl, rfl, rfl, rfl, rfl, rfl, rfl, rfl, rfl, rfl, rfl, rfl, rfl, rfl, trivial⟩ ⟨rfl, rfl, rfl, rfl, trivial⟩ (zX (by rw [List.length_map]; (try dsimp only); omega) fun j b h1 h2 hx hb => by repeat (first | exact hb | refine zaq (by decide) h1 h2 ?_ | refine zai (by decide) h1 h2 hx ?_ | refine zaT (by decide) h1 h2 hx ?_ | refine zY (ks := [21, 22]) (by decide) h1 h2 hx ?_ | refine zaU (by decide) h1 h2 hx ?_)) )
      refine zt (zG (id := 23) (ds := sbjD ⟨r.p, mm, r.t, 100, [], [], 0⟩) rfl rfl) ?_
      unfold ovF
      cases okk with
      | true =>
       rw [if_pos rfl] at hI
       have hE2 := zd2 hE hagT (v := (i, A)) (hAp rfl)
       have ch := cH (by rw [hA])
       rw [hA] at ch
       dsimp only at ch
       repeat ((fail_if_success refine zb ?_); first | refine q_Y ?_ | ((first | apply q_K rfl | apply q_X rfl); (exact q_G)) | refine q_U ?_)
       refine zhG (α := Value × Value) (Φ := fun _ => True) (C := fun z => .tup [aggD (sbjH A z.1 z.2), boolA true, .d (iD er)]) (H1 := fun z => [(21, uX z.1 A.path), (22, uX z.2 A.com)]) ch (fun z _ => ⟨rfl, (zhY A z).2.1, fun j hj => by cases hj⟩) rfl rfl rfl rfl rfl fun z _ => ?_
       obtain ⟨hv, hw⟩ := z
       repeat ((fail_if_success refine zb ?_); first | refine q_Y ?_ | ((first | apply q_K rfl | apply q_X rfl); (exact q_G)) | refine q_U ?_ | (refine zmj (k := r.p) (xa := tkA) (q := ⟨(i, A), hv, hw⟩) pfxKey zq zbN trivial (fun _ _ => trivial) hEn za rfl rfl rfl rfl rfl (ktz3 _ _ _ _ tk) rfl rfl ?_))
       have hsn : tR (tk ++ [(r.p, (⟨(i, A), hv, hw⟩ : TkR))]) = tR tk ++ [(r.p, (i, A))] := List.map_append ..
       refine ⟨(k + 1, tk ++ [(r.p, ⟨(i, A), hv, hw⟩)], lk ++ [r.p]), ⟨hkl, by rw [hsn]; exact hE2, by
        rw [hsn]
        intro e he
        rcases List.mem_append.1 he with he | he
        ·exact hM e he
        ·have : e = (r.p, (i, A)) := by simpa using he
         subst this
         exact ⟨r, hrm, rfl⟩, hlk2, by rw [hsn]; exact hI⟩, by (try dsimp only); omega, ?_⟩
       show AWk _ _ _ _ ([(903, tkB (tk ++ [(r.p, (⟨(i, A), hv, hw⟩ : TkR))])), (904, lkB (lk ++ [r.p]))] ++ famT ((tk ++ [(r.p, (⟨(i, A), hv, hw⟩ : TkR))]).map (·.2)) 300)
       rw [List.map_append]
       exact znI (y := ⟨(i, A), hv, hw⟩) (s1 := 21) (s2 := 22) (by decide) (by decide) (by decide) (by rw [List.length_map]; omega) ⟨rfl, rfl, rfl, rfl, rfl, rfl, rfl, rfl, rfl, rfl, rfl, rfl, rfl, rfl, trivial⟩ ⟨zmw _ _ _ hag, klz3 _ _ _ _ _, trivial⟩ rfl rfl (zX (by rw [List.length_map]; (try dsimp only); omega) fun j b h1 h2 hx hb => by repeat (first | exact hb | refine zaq (by decide) h1 h2 ?_ | refine zai (by decide) h1 h2 hx ?_ | refine zaT (by decide) h1 h2 hx ?_ | refine zY (ks := [21, 22]) (by decide) h1 h2 hx ?_ | refine zaU (by decide) h1 h2 hx ?_)) rfl rfl (fun id b h => by rcases ziI h with ⟨h1, _⟩ | ⟨h1, _⟩ <;> omega) (fun t c h j h1 h2 => zmZ h h1 h2) (fun id b h j h1 h2 => by rcases ziI h with ⟨_, rfl⟩ | ⟨_, rfl⟩ <;> first | exact zo5 _ _ | exact zo6 _ _)
      | false =>
       rw [if_neg (by decide)] at hI
       repeat ((fail_if_success refine zb ?_); first | refine q_Y ?_ | ((first | apply q_K rfl | apply q_X rfl); (exact q_G)) | refine q_U ?_ | refine q_O ca ?_)
       exact ⟨(k + 1, tk, lk ++ [r.p]), ⟨hkl, hE, hM, hlk2, hI⟩, by (try dsimp only); omega, zaf ⟨rfl, rfl, rfl, rfl, rfl, rfl, rfl, rfl, rfl, rfl, rfl, rfl, rfl, rfl, trivial⟩ ⟨ktz1 _ _ _ _, klz1 _ _ _ _, trivial⟩ (zX (by rw [List.length_map]; (try dsimp only); omega) fun j b h1 h2 hx hb => by repeat (first | exact hb | refine zaq (by decide) h1 h2 ?_ | refine zai (by decide) h1 h2 hx ?_ | refine zaT (by decide) h1 h2 hx ?_ | refine zY (ks := [21, 22]) (by decide) h1 h2 hx ?_ | refine zaU (by decide) h1 h2 hx ?_)) ⟩
  ·obtain rfl : k = R.length := by omega
   rw [List.drop_length, inR] at hI
   subst hI
   unfold ovF
   repeat ((fail_if_success refine zb ?_); first | refine q_Y ?_ | ((first | apply q_K rfl | apply q_X rfl); (exact q_G)) | refine q_U ?_)
   exact ⟨(i + 1, tk), ⟨hil, hE, hM, hF⟩, by (try dsimp only); omega, zaf ⟨rfl, rfl, rfl, rfl, rfl, rfl, rfl, rfl, trivial⟩ ⟨rfl, trivial⟩ (zX (by rw [List.length_map]; (try dsimp only); omega) fun j b h1 h2 hx hb => by repeat (first | exact hb | refine zaq (by decide) h1 h2 ?_ | refine zai (by decide) h1 h2 hx ?_ | refine zaT (by decide) h1 h2 hx ?_ | refine zY (ks := [21, 22]) (by decide) h1 h2 hx ?_ | refine zaU (by decide) h1 h2 hx ?_)) ⟩
 obtain rfl : i = l.length := by omega
 rw [List.drop_length, outR] at hF
 subst hF
 have htl := hEl tk hE hM
 clear hM
 unfold ovE
 refine zpp (mid := 903) rfl fun r bs clk hbl hbp hbc => ?_
 repeat ((fail_if_success refine zb ?_); first | refine q_Y ?_ | ((first | apply q_K rfl | apply q_X rfl); (exact q_G)) | refine q_U ?_ | (refine znP za rfl rfl rfl rfl rfl rfl rfl rfl ?_))
 refine zt (zaf (e1 := [(27, .d (.sc (.slice none 0 0))), (130, .ptr 130 0)]) (h1 := [(130, .it (.mapIter (some r) clk #[] clk)), (903, .mapx r bs clk (ents pfxA tkA tk))]) (G := fR tk) ⟨rfl, rfl, trivial⟩ ⟨rfl, congrArg some (zcD _ _ _ _ _), trivial⟩ (zX (by rw [List.length_map]; (try dsimp only); omega) fun j b h1 h2 hx hb => by repeat (first | exact hb | refine zaq (by decide) h1 h2 ?_ | refine zai (by decide) h1 h2 hx ?_ | refine zaT (by decide) h1 h2 hx ?_ | refine zY (ks := [21, 22]) (by decide) h1 h2 hx ?_ | refine zaU (by decide) h1 h2 hx ?_)) ) ?_
 refine zt (zbn 52 9 (t := 27) (id := 27) rfl rfl) ?_
 try refine zS ?_
 refine zw (fun _ : List Nat => [(27, .row 27), (130, .ptr 130 0)]) (fun js => [(27, tkrB ((comeV tk js).map (·.2))), (130, .it (.mapIter (some r) clk (seenO bs js) clk)), (903, .mapx r bs clk (ents pfxA tkA tk))] ++ fR tk) (fun js => js.Nodup ∧ ∀ j ∈ js, j < tk.length) (fun js => tk.length - js.length) [] ⟨.nil, by simp⟩ (zaf ⟨rfl, rfl, trivial⟩ ⟨rfl, rfl, congrArg some (zcD _ _ _ _ _), trivial⟩ (zX (by rw [List.length_map]; (try dsimp only); omega) fun j b h1 h2 hx hb => by repeat (first | exact hb | refine zaq (by decide) h1 h2 ?_ | refine zai (by decide) h1 h2 hx ?_ | refine zaT (by decide) h1 h2 hx ?_ | refine zY (ks := [21, 22]) (by decide) h1 h2 hx ?_ | refine zaU (by decide) h1 h2 hx ?_)) ) ?_
 rintro js ⟨hnd, hjl⟩
 try dsimp only
 have hbm : bs.length = tk.length := by rw [hbl]; simp [ents]
 have hbjl : ∀ j ∈ js, j < bs.length := fun j hj => by rw [hbm]; exact hjl j hj
 refine z7 ?_
 refine zab ?_
 refine zpm (mid := 903) rfl rfl rfl rfl rfl rfl rfl (Nat.le_refl _) (Nat.le_refl _) (fun hall => ?_) (fun j p b hp hb hs => ?_)
 ·have hper := zjX tk js hnd hjl fun j hj => (zfp bs js hbp hbjl j bs[j] (List.getElem?_eq_getElem (by omega))).1 (hall _ (List.getElem_mem (by omega)))
  have hper2 : ((comeV tk js).map (·.2)).Perm (tk.map (·.2)) := hper.map _
  have hmt : (tk.map (·.2)).map (·.t) = (tR tk).map (·.2) := by rw [List.map_map, List.map_map]; rfl
  have hap : (((comeV tk js).map (·.2)).map (·.t)).Pairwise fun x y => x.2.p ≠ y.2.p := ze9 (hper2.map (·.t)) (by rw [hmt]; exact ze2 hE)
  have hsrt : (srt cmpR ((comeV tk js).map (·.2))).map (·.t) = takenL (tR tk) := by
   rw [zkv hap]
   unfold takenL
   rw [← hmt]
   exact zjh (hper2.map (·.t)) (by rw [hmt]; exact ze2 hE)
  have hlen : ((comeV tk js).map (·.2)).length ≤ 1000000 := by rw [hper2.length_eq, List.length_map]; omega
  have hSp : (srt cmpR ((comeV tk js).map (·.2))).Perm (tk.map (·.2)) := (List.mergeSort_perm _ _).trans hper2
  have hso := zkw ((comeV tk js).map (·.2)) (by omega) (zil hap)
  generalize (comeV tk js).map (·.2) = L at hso hsrt hlen hSp ⊢
  generalize srt cmpR L = S at hso hsrt hSp
  repeat ((fail_if_success refine zb ?_); first | refine q_Y ?_ | ((first | apply q_K rfl | apply q_X rfl); (exact q_G)) | refine q_U ?_)
  refine O_cP [(1000, 27)] (fun p p' i h1 h2 => by rw [(zd0 h1).1, (zd0 h2).1]) (fun p i h1 => by rw [(zd0 h1).1]; exact ⟨Nat.le_refl _, rfl, rfl⟩) hso (fun c hc => by simp at hc; rcases hc with rfl | rfl <;> rfl) ⟨⟨27, _, rfl, rfl, rfl, trivial⟩, trivial⟩ rfl rfl rfl rfl rfl rfl ?_
  repeat ((fail_if_success refine zb ?_); first | refine q_Y ?_ | ((first | apply q_K rfl | apply q_X rfl); (exact q_G)) | refine q_U ?_)
  refine zo (znH (e1 := [(8, .row 27), (9, .d (iD 0))]) (h1 := [(27, tkrB S)]) hSp (by rw [List.length_map]; omega) ⟨rfl, rfl, trivial⟩ ⟨rfl, trivial⟩ (zX (by rw [List.length_map]; (try dsimp only); omega) fun j b h1 h2 hx hb => by repeat (first | exact hb | refine zaq (by decide) h1 h2 ?_ | refine zai (by decide) h1 h2 hx ?_ | refine zaT (by decide) h1 h2 hx ?_ | refine zY (ks := [21, 22]) (by decide) h1 h2 hx ?_ | refine zaU (by decide) h1 h2 hx ?_)) (fun id b h => ?_) (fun t c h j h1 h2 => ?_) (fun id b h j h1 h2 => ?_)) rfl (h2 := (27, tkrB S) :: famT S 300) ⟨rfl, zgE (ziS S 300) fun id b hb => zaq (by decide) (zad hb).1 (by have := (zad hb).2.1; have := hSp.length_eq; rw [List.length_map] at this; omega) hb⟩ ⟨S, hsrt, rfl, rfl⟩
  ·by_cases h2 : 27 = id
   ·subst h2; exact .inl (by decide)
   ·rw [zc _ _ h2] at h; cases h
  ·have hm := zfA h
   simp only [List.mem_cons, Prod.mk.injEq, List.not_mem_nil, or_false] at hm
   rcases hm with ⟨_, rfl⟩ | ⟨_, rfl⟩
   ·show (27 == j) = false; simp; omega
   ·rfl
  ·by_cases h2 : 27 = id
   ·subst h2; rw [ze] at h; cases h; rfl
   ·rw [zc _ _ h2] at h; cases h
 ·obtain ⟨q, hq, rfl⟩ : ∃ q, tk[j]? = some q ∧ p = (pfxA q.1, tkA q.2) := by
   rw [ents, List.getElem?_map] at hp
   cases h1 : tk[j]? with
   | none => simp [h1] at hp
   | some q => simp [h1] at hp; exact ⟨q, rfl, hp.symm⟩
  have hjm : j < tk.length := (List.getElem?_eq_some_iff.1 hq).1
  have hnot : j ∉ js := fun h => by rw [(zfp bs js hbp hbjl j b hb).2 h] at hs; cases hs
  have hnd2 : (js ++ [j]).Nodup := List.nodup_append.2 ⟨hnd, by simp, by rintro a ha b hb rfl; simp at hb; subst hb; exact hnot ha⟩
  have hjl2 : ∀ i ∈ js ++ [j], i < tk.length := fun i hi => by
   rcases List.mem_append.1 hi with h | h
   ·exact hjl i h
   ·simp at h; omega
  have hlen2 := zh2 hnd2 hjl2
  rw [List.length_append] at hlen2
  simp at hlen2
  rw [zeH bs js j b hb]
  have hcs := zih tk js j q hq
  have hcl : ((comeV tk js).map (·.2)).length ≤ 1000000 := by
   rw [List.length_map]
   have := zjW tk js
   omega
  repeat ((fail_if_success refine zb ?_); first | refine q_Y ?_ | ((first | apply q_K rfl | apply q_X rfl); (first | exact q_F | (first | exact q_H | (exact znL (mid := 903) (p := (pfxA q.1, tkA q.2)) rfl rfl (by rw [← zeH bs js j b hb]; rfl) rfl hp hb rfl rfl)))) | refine q_U ?_ | (first | refine zaE za rfl rfl rfl rfl rfl rfl rfl rfl rfl rfl rfl (by first | exact Src.row rfl | exact Src.dat _ _ | exact Src.nil) rfl (by omega) ?_ | refine zaF za rfl rfl rfl rfl rfl rfl rfl rfl rfl rfl (by first | exact Src.row rfl | exact Src.dat _ _ | exact Src.nil) rfl (by omega) ?_))
  exact ⟨js ++ [j], ⟨hnd2, hjl2⟩, by rw [List.length_append]; simp; omega, zaf ⟨rfl, rfl, trivial⟩ ⟨zah (by rw [hcs]; simp) (by rw [hcs, List.map_append, List.flatMap_append]; simp; rfl) rfl, rfl, ktx3 _ _ _ _ _ _ _, trivial⟩ (zX (by rw [List.length_map]; (try dsimp only); omega) fun j b h1 h2 hx hb => by repeat (first | exact hb | refine zaq (by decide) h1 h2 ?_ | refine zai (by decide) h1 h2 hx ?_ | refine zaT (by decide) h1 h2 hx ?_ | refine zY (ks := [21, 22]) (by decide) h1 h2 hx ?_ | refine zaU (by decide) h1 h2 hx ?_)) ⟩
end Ab
end Go.Proofs.YtmmdkjanmegjdaaGreat

namespace Go.Proofs.YtmmdkjanmegjdaaGreat.Ab
open Go.RowKit
theorem zca {id : Nat} {c : AVal} (h : c.has id = false) : killV id c = c := by unfold killV; rw [h]; rfl
theorem zeA {id : Nat} {cs : List AVal} (h : hasL id cs = false) : ∀ c ∈ cs, c.has id = false := fun c hc => by
 obtain ⟨i, hi, rfl⟩ := List.mem_iff_getElem.1 hc
 exact zbw h (List.getElem?_eq_getElem hi)
theorem zbu {α : Type} {f : α → α} {l : List α} (h : ∀ x ∈ l, f x = x) : l.map f = l := (List.map_congr_left h).trans (List.map_id' l)
theorem zcH {es : List (AVal × AVal)} {id : Nat} (h : (es.any fun p => p.1.has id || p.2.has id) = false) : ∀ p ∈ es, p.1.has id = false ∧ p.2.has id = false := fun p hp => by
 have h2 := List.any_eq_false.1 h p hp
 cases h3 : p.1.has id <;> cases h4 : p.2.has id <;> simp [h3, h4] at h2 ⊢
theorem zlh {id : Nat} {b : ABlk} (h : blkHas id b = false) : killB id b = b := by
 cases b with
 | var cs => exact congrArg ABlk.var (zbu fun c hc => zca (zeA h c hc))
 | rowA e k n cs => exact congrArg (ABlk.rowA e k n) (zbu fun c hc => zca (zeA h c hc))
 | map es => exact congrArg ABlk.map (zbu fun p hp => by rw [zca (zcH h p hp).1, zca (zcH h p hp).2])
 | mapx r bs clk es => exact congrArg (ABlk.mapx r bs clk) (zbu fun p hp => by rw [zca (zcH h p hp).1, zca (zcH h p hp).2])
 | _ => rfl
theorem zfD {ids : List Nat} {b : ABlk} (h : ∀ j ∈ ids, blkHas j b = false) : killBs ids b = b := by
 cases b with
 | var cs => exact congrArg ABlk.var (zbu fun c hc => zaB fun j hj => zeA (h j hj) c hc)
 | rowA e k n cs => exact congrArg (ABlk.rowA e k n) (zbu fun c hc => zaB fun j hj => zeA (h j hj) c hc)
 | map es => exact congrArg ABlk.map (zbu fun p hp => by rw [zaB fun j hj => (zcH (h j hj) p hp).1, zaB fun j hj => (zcH (h j hj) p hp).2])
 | mapx r bs clk es => exact congrArg (ABlk.mapx r bs clk) (zbu fun p hp => by rw [zaB fun j hj => (zcH (h j hj) p hp).1, zaB fun j hj => (zcH (h j hj) p hp).2])
 | _ => rfl
structure Clo (G : Heap) (D : Nat → Bool) : Prop where
 at_ : ∀ id b, look G id = some b → D id = true ∧ ∀ j, D j = false → blkHas j b = false
theorem Clo.nil (D : Nat → Bool) : Clo [] D := ⟨fun _ _ h => by cases h⟩
theorem Clo.mono {G : Heap} {D D' : Nat → Bool} (h : Clo G D) (hd : ∀ k, D k = true → D' k = true) : Clo G D' := ⟨fun id b hb => ⟨hd _ (h.at_ id b hb).1, fun j hj => (h.at_ id b hb).2 j (by
 cases h2 : D j with
 | false => rfl
 | true => rw [hd j h2] at hj; cases hj)⟩⟩
theorem Clo.app {G G2 : Heap} {D D2 : Nat → Bool} (h : Clo G D) (h2 : Clo G2 D2) : Clo (G ++ G2) (fun k => D k || D2 k) := ⟨fun id b hb => by
 rw [zI] at hb
 cases hl : look G id with
 | some c => rw [hl] at hb; cases hb; exact (h.mono (D' := fun k => D k || D2 k) fun k hk => by show (D k || D2 k) = true; rw [hk]; rfl).at_ id b hl
 | none => rw [hl] at hb; exact (h2.mono (D' := fun k => D k || D2 k) fun k hk => by show (D k || D2 k) = true; rw [hk, Bool.or_true]).at_ id b hb⟩
theorem Clo.of {G : Heap} {D : Nat → Bool} (hd : ∀ id b, look G id = some b → D id = true) (hc : ∀ id b j, look G id = some b → blkHas j b = true → (look G j).isSome = true) : Clo G D := ⟨fun id b hb => ⟨hd id b hb, fun j hj => by
 cases h : blkHas j b with
 | false => rfl
 | true =>
  obtain ⟨c, hc⟩ := Option.isSome_iff_exists.1 (hc id b j hb h)
  rw [hd j c hc] at hj; cases hj⟩⟩
section
variable {h : Heap} {k id : Nat} {b c : ABlk} {D : Nat → Bool}
theorem zlQ (hd : D id = true ∧ ∀ j, D j = false → blkHas j b = false) (hk : D k = false) (hl : look h id = some b) : look ((k, c) :: h) id = some b := by
 rw [zc _ _ (by rintro rfl; rw [hk] at hd; cases hd.1)]; exact hl
theorem zjZ (hd : D id = true ∧ ∀ j, D j = false → blkHas j b = false) (hk : D k = false) (hl : look h id = some b) : look (killH k h) id = some b := by
 rw [zcj, if_neg (by rintro rfl; rw [hk] at hd; cases hd.1), hl]
 show some (killB k b) = _
 rw [zlh (hd.2 k hk)]
theorem zij {ks : List Nat} (hd : D id = true ∧ ∀ j, D j = false → blkHas j b = false) (hk : ∀ k ∈ ks, D k = false) (hl : look h id = some b) : look (killHs ks h) id = some b := by
 rw [zbv, if_neg (fun hc => by have := hk id (List.contains_iff_mem.1 hc); rw [this] at hd; cases hd.1), hl]
 show some (killBs ks b) = _
 rw [zfD fun j hj => hd.2 j (hk j hj)]
end
theorem Clo.cons {G h : Heap} {D : Nat → Bool} {id k : Nat} {b c : ABlk} (hG : Clo G D) (hb : look G id = some b) (hk : D k = false) (hl : look h id = some b) : look ((k, c) :: h) id = some b := zlQ (hG.at_ id b hb) hk hl
theorem Clo.killH {G h : Heap} {D : Nat → Bool} {id k : Nat} {b : ABlk} (hG : Clo G D) (hb : look G id = some b) (hk : D k = false) (hl : look h id = some b) : look (Ab.killH k h) id = some b := zjZ (hG.at_ id b hb) hk hl
theorem zd1 {N G : Heap} {id : Nat} {b : ABlk} (hl : look N id = some b) : look (N ++ G) id = some b := by rw [zI, hl]
theorem zjG {N G : Heap} {D : Nat → Bool} {id : Nat} {b : ABlk} (hN : Clo N D) (hd : D id = false) (hl : look G id = some b) : look (N ++ G) id = some b := by
 rw [zI]
 cases h : look N id with
 | none => exact hl
 | some c => have := (hN.at_ id c h).1; rw [hd] at this; cases this
def apV (D : Nat → Bool) : AVal → Bool
 | .d _ => true
 | .row k => !D k
 | .ptr k _ => !D k
 | .mp k => !D k
 | .iptr _ _ => true
 | _ => false
theorem zgi {D : Nat → Bool} {c : AVal} (h : apV D c = true) {j : Nat} (hj : D j = true) : c.has j = false := by
 have key : ∀ k : Nat, (!D k) = true → (k == j) = false := fun k hk => by
  rw [beq_eq_false_iff_ne]
  rintro rfl
  rw [hj] at hk; cases hk
 cases c with
 | d x => rfl
 | row k => exact key k h
 | ptr k o => exact key k h
 | mp k => exact key k h
 | iptr cs o => rfl
 | _ => cases h
def apB (D : Nat → Bool) : ABlk → Bool
 | .row _ _ _ _ => true
 | .rowx _ _ _ _ _ => true
 | .var cs => cs.all (apV D)
 | _ => false
theorem znD {D : Nat → Bool} {b : ABlk} (h : apB D b = true) {j : Nat} (hj : D j = true) : blkHas j b = false := by
 cases b with
 | row e k n cs => rfl
 | rowx hv e k n cs => rfl
 | var cs =>
  show hasL j cs = false
  have h2 := List.all_eq_true.1 h
  clear h
  induction cs with
  | nil => rfl
  | cons c r ih =>
   rw [hasL, zgi (h2 c (List.mem_cons_self ..)) hj, ih fun c hc => h2 c (List.mem_cons_of_mem _ hc)]
   rfl
 | _ => cases h
def apE (D : Nat → Bool) (e : Env) : Bool := e.all fun p => apV D p.2
def apH (D : Nat → Bool) (h : Heap) : Bool := h.all fun p => !D p.1 && apB D p.2
theorem zjH {α : Type} {l : List (Nat × α)} {t : Nat} {c : α} (h : look l t = some c) : (t, c) ∈ l := by
 induction l with
 | nil => cases h
 | cons p r ih =>
  obtain ⟨k, d⟩ := p
  by_cases hk : k = t
  ·subst hk; rw [ze] at h; cases h; exact List.mem_cons_self ..
  ·rw [zc _ _ hk] at h; exact List.mem_cons_of_mem _ (ih h)
theorem zks {α : Type} {l m m2 : List (Nat × α)} (h : Sub l m) (hk : ∀ p ∈ l, look m p.1 = some p.2 → look m2 p.1 = some p.2) : Sub l m2 := by
 induction l with
 | nil => exact trivial
 | cons p r ih =>
  obtain ⟨k, c⟩ := p
  exact ⟨hk (k, c) (List.mem_cons_self ..) h.1, ih h.2 fun q hq => hk q (List.mem_cons_of_mem _ hq)⟩
section
variable {nt d : Nat} {e e1 : Env} {h h1 G N : Heap} {D D' : Nat → Bool} {c : AVal}
theorem znC {ids : List Nat} (hids : ∀ j ∈ ids, D' j = true) (he : Sub e1 e) (hea : apE D' e1 = true) (hed : e1.all (fun p => !Nat.beq d p.1) = true) : Sub ((d, c) :: e1) ((d, c) :: killEs ids e) :=
 ⟨ze _ _ _, zks he fun p hp hl => by
  have h1 := List.all_eq_true.1 hea p hp
  have h2 := List.all_eq_true.1 hed p hp
  rw [zc _ _ (by rintro rfl; simp at h2)]
  exact zg3 hl fun j hj => zgi h1 (hids j hj)⟩
theorem znB {ids : List Nat} (hids : ∀ j ∈ ids, D' j = true) (hh : Sub h1 h) (hha : apH D' h1 = true) (hN : ∀ id, D' id = false → look N id = none) : Sub h1 (N ++ killHs ids h) :=
 zks hh fun p hp hl => by
  have h2 := List.all_eq_true.1 hha p hp
  rw [Bool.and_eq_true] at h2
  have h3 : D' p.1 = false := by cases h4 : D' p.1 with
   | false => rfl
   | true => rw [h4] at h2; cases h2.1
  rw [zI, hN p.1 h3]
  show look (killHs ids h) p.1 = _
  rw [zbv, if_neg (fun hc => by have := hids p.1 (List.contains_iff_mem.1 hc); rw [h3] at this; cases this), hl]
  show some (killBs ids p.2) = _
  rw [zfD fun j hj => znD h2.2 (hids j hj)]
theorem zl7 (hN : ∀ id b, look N id = some b → D' id = true) (hG : Clo G D) (hdis : ∀ k, D' k = true → D k = false) (he : Sub e1 e) (hea : apE D' e1 = true) (hed : e1.all (fun p => !Nat.beq d p.1) = true) (hh : Sub h1 h) (hha : apH D' h1 = true) (hGl : ∀ id b, look G id = some b → look h id = some b) :
  AWk nt ((d, c) :: killEs (N.map (·.1)) e) (N ++ killHs (N.map (·.1)) h) ((d, c) :: e1) (h1 ++ (N ++ G)) := by
 have hids : ∀ j ∈ N.map (·.1), D' j = true := fun j hj => by
  obtain ⟨b, hb⟩ := zbU hj
  exact hN j b hb
 have hno : ∀ id, D' id = false → look N id = none := fun id hd => by
  cases hl : look N id with
  | none => rfl
  | some b => rw [hN id b hl] at hd; cases hd
 refine zaf (znC hids he hea hed) (znB hids hh hha hno) fun id b hb => ?_
 rw [zI] at hb
 rw [zI]
 cases hl : look N id with
 | some b' => rw [hl] at hb; exact hb
 | none =>
  rw [hl] at hb
  have hb : look G id = some b := hb
  have h5 := hG.at_ id b hb
  show look (killHs (N.map (·.1)) h) id = some b
  refine zij (D := D) h5 (fun k hk => hdis k (hids k hk)) (hGl id b hb)
end
def shl (a b : Nat) : Nat → List (Nat × Nat)
 | 0 => []
 | n + 1 => (a + n, b + n) :: shl a b n
end Go.Proofs.YtmmdkjanmegjdaaGreat.Ab

/-
 Texts of a proof, one behind the other (part 53).
-/
import Derived.Deep.CondSized
import Derived.Test.YtmmdkjanmegjdaaGreatRv2
import Derived.Test.YtmmdkjanmegjdaaGreatRv4
import Derived.Test.YtmmdkjanmegjdaaGreatRv38
import Derived.Test.YtmmdkjanmegjdaaGreatRv43
import Derived.Test.YtmmdkjanmegjdaaGreatRv46
import Derived.Test.YtmmdkjanmegjdaaGreatRv51
set_option maxRecDepth 100000
set_option linter.unusedSimpArgs false
set_option linter.unusedVariables false
namespace Go.Proofs.YtmmdkjanmegjdaaGreat
open Go.RowKit Go.Lib
theorem zk0 (d : Dvc) (l : List Rds) (rs : List Rte) (ospf : Bool) : (overR d l rs ospf).1.length ≤ rs.length := by
 unfold overR
 split
 ·exact Nat.zero_le _
 ·obtain ⟨a, a1, a2, a3⟩ := zeQ d ospf (sortU ordR rs) l 0 [] zdD
  rw [List.nil_append] at a1 a2
  show (takenL _).length ≤ _
  rw [a1, zhP]
  have h1 := zhe a2 (rs := sortU ordR rs) fun e he => by obtain ⟨_, _, r, h3, h4, _⟩ := a3 e he; exact ⟨r, h3, h4⟩
  have h2 := zbi (c := ordR) rs
  omega
namespace Ab
def subB (x : Tkn) : Prop := x.2.path.length ≤ 1000000000 ∧ x.2.com.length ≤ 1000000000
theorem zdP {cs ds : List Dat} {o : Nat} (h : o + ds.length ≤ cs.length) : (setW cs o ds).length = cs.length := by
 unfold setW; rw [List.length_append, List.length_append, List.length_take, List.length_drop]; omega
attribute [local irreducible] AWp AOps AQ AYield AEff ACall AWk AAny AAt AThen AIn APost NoPanic
abbrev oE (d : Dvc) (l : List Rds) (rs : List Rte) (ospf : Bool) (W : List Tkn) (i : Nat) : Env := [(1, rdssA l), (2, rtesA rs), (3, boolA ospf), (4, .iptr (dvcD d) 0), (9, rtesA rs), (10, tk2A W), (12, .row 27), (14, .row 28), (16, natA i)]
set_option maxHeartbeats 64000000 in
theorem zmX (d : Dvc) (l lr : List Rds) (rs rr : List Rte) (ospf : Bool) (hl20 : l.length ≤ 20) (hlr : lr ≠ [] → l.length = 20) (hln : l.length + lr.length ≤ 1048576) (hr80 : rs.length ≤ 80) (hrr : rr ≠ [] → rs.length = 80) (hrn : rs.length + rr.length ≤ 1048576) (hp : d.pols.length ≤ 1048576)
  (hok : OkO d l rs) (hsb : ∀ x ∈ (overR d l rs ospf).1, subB x) : ACall Tryz.prog 3 [dvcA d, .d (.sl (l.flatMap rdsD ++ lr.flatMap rdsD) (l.length + lr.length)), .d (.sl (rs.flatMap rteD ++ rr.flatMap rteD) (rs.length + rr.length)), boolA ospf] [] (Just (boolA true)) := by
 have haw := zhV
 have hmin1 : (if (20 : Int) < ((l.length + lr.length : Nat) : Int) then (20 : Int) else ((l.length + lr.length : Nat) : Int)) = (l.length : Int) := by
  cases lr with
  | nil => simp; omega
  | cons b r => have := hlr (by simp); simp; omega
 have hmin2 : (if (80 : Int) < ((rs.length + rr.length : Nat) : Int) then (80 : Int) else ((rs.length + rr.length : Nat) : Int)) = (rs.length : Int) := by
  cases rr with
  | nil => simp; omega
  | cons b r => have := hrr (by simp); simp; omega
 have hov := zkN d l rs ospf hok (by omega)
 have hln2 := zk0 d l rs ospf
 have hov2 := zoo d l rs ospf hok (by omega) (by omega)
 have hfl : (rs.flatMap rteD).length = rs.length * 9 := zM zr rs
 refine zf za Tryz.func3 rfl Tryz.ntmps3 (congrArg Array.toList Tryz.results3) (by kernel_rfl) rfl ?_
 refine z7 ?_
 refine zab ?_
 refine q_d ?_
 refine zB (zG (id := 4) (ds := dvcD d) rfl rfl) ?_
 apply O_y rfl rfl rfl
 exact q_2
 refine zcv ?_
 refine q_j ?_
 refine z7 ?_
 refine zgr rfl mixed (by kernel_rfl) ?_
 repeat ((first | apply q_K rfl | apply q_X rfl); (first | exact zod rfl rfl rfl hmin1 | exact zod rfl rfl rfl hmin2 | exact zl9 za rfl rfl rfl rfl rfl rfl (by omega) | (exact q_H)))
 first | refine zcv ?_ | refine zmi ?_
 refine q_j ?_
 refine zt (zfd (t := 1) rfl ziF) ?_
 refine zt (zfd (t := 2) rfl ziF) ?_
 refine zt (q_S (e1 := [(1, rdssA l), (2, rtesA rs), (3, boolA ospf), (4, .iptr (dvcD d) 0)]) (h1 := [])) ?_
 by_cases hp50 : 50 < d.pols.length
 ·
  repeat ((fail_if_success refine zb ?_); first | refine q_Y ?_ | ((first | apply q_K rfl | apply q_X rfl); (exact q_G)) | refine q_U ?_ | refine q_O haw ?_)
  exact zo AWk.refl rfl (h2 := []) trivial ⟨rfl, rfl⟩
 have hvd := zmL d l rs ospf ⟨by omega, hok.ln, hok.rn, hok.ok, hok.ap⟩
 have hsm := zjq rs rs (by omega)
 rw [decide_eq_true rfl] at hsm
 obtain ⟨⟨W, er⟩, hW⟩ : ∃ x, overR d l rs ospf = x := ⟨_, rfl⟩
 rw [hW] at hov hov2 hvd hln2 hsb
 dsimp only at hov hov2 hvd hln2 hsb
 clear hW hmin1 hmin2
 have hWl : ∀ L : List TkR, L.map (·.t) = W → L.length = W.length := fun L h => by rw [← h, List.length_map]
 repeat ((fail_if_success refine zb ?_); first | refine q_Y ?_ | ((first | apply q_K rfl | apply q_X rfl); (exact q_G)) | refine q_U ?_)
 refine zcM za rfl rfl rfl rfl rfl rfl rfl ?_
 repeat ((fail_if_success refine zb ?_); first | refine q_Y ?_ | ((first | apply q_K rfl | apply q_X rfl); (exact q_G)) | refine q_U ?_ | (first | (first | refine zaE za rfl rfl rfl rfl rfl rfl rfl rfl rfl rfl rfl (by first | exact Src.row rfl | exact Src.dat _ _ | exact Src.nil) hfl (by omega) ?_ | refine zaF za rfl rfl rfl rfl rfl rfl rfl rfl rfl rfl (by first | exact Src.row rfl | exact Src.dat _ _ | exact Src.nil) hfl (by omega) ?_) | refine q_O hvd ?_))
 refine zB (zm (e1 := [(46, dvcA d), (47, rdssA l), (48, .row 34), (49, boolA ospf), (1, rdssA l), (2, rtesA rs), (3, boolA ospf), (4, .iptr (dvcD d) 0), (9, .row 34), (10, tk2A W), (11, .d (iD er))]) (h1 := [(34, rteB rs)]) ⟨rfl, rfl, rfl, rfl, rfl, rfl, rfl, rfl, rfl, rfl, rfl, trivial⟩ ⟨zah (Nat.zero_add _) rfl rfl, trivial⟩) ?_
 refine zB (zF (id := 34) rfl) ?_
 refine zhG (α := List TkR) (Φ := fun L => L.map (·.t) = W) (C := fun _ => .tup [.row 27, .d (iD er)]) (H1 := fun L => (27, tkrB L) :: famT L 300) hov (fun L hL => tk_q L _ (fun _ => rfl) (by have := hWl L hL; omega)) rfl rfl rfl rfl rfl fun L hL => ?_
 have hLl := hWl L hL
 have hLn : L.length ≤ 140 := by omega
 have cL := zlO (L := L) (r := 27) (b := 300) hLn
 refine zB (zl7 (N := (27, tkrB L) :: famT L 300) (D' := oD 27 300) (D := fun _ => false) (G := []) (e1 := [(1, rdssA l), (2, rtesA rs), (3, boolA ospf), (4, .iptr (dvcD d) 0), (9, rtesA rs), (10, tk2A W), (11, .d (iD er))]) (h1 := []) (fun id b hb => (cL.at_ id b hb).1) (Clo.nil _) (fun k hk => rfl) ⟨rfl, rfl, rfl, rfl, rfl, rfl, rfl, trivial⟩ rfl rfl trivial rfl (fun id b hb => by cases hb)) ?_
 have cL0 := cL.app (Clo.nil fun _ => false)
 repeat ((fail_if_success refine zb ?_); first | refine q_Y ?_ | ((first | apply q_K rfl | apply q_X rfl); (exact q_G)) | refine q_U ?_)
 refine zhG (α := List TkR) (Φ := fun L => L.map (·.t) = W) (C := fun _ => .tup [.row 28, .d (iD er)]) (H1 := fun L => (28, tkrB L) :: famT L 600) hov2 (fun L hL => zpt L _ (fun _ => rfl) (by have := hWl L hL; omega)) rfl rfl rfl rfl rfl fun M hM => ?_
 have hMl := hWl M hM
 have hMn : M.length ≤ 140 := by omega
 have cM := zlO (L := M) (r := 28) (b := 600) hMn
 refine zB (zl7 (N := (28, tkrB M) :: famT M 600) (D' := oD 28 600) (D := oD 300 300) (G := famT L 300) (e1 := [(1, rdssA l), (2, rtesA rs), (3, boolA ospf), (4, .iptr (dvcD d) 0), (9, rtesA rs), (10, tk2A W), (11, .d (iD er)), (12, .row 27), (13, .d (iD er))]) (h1 := [(27, tkrB L)]) (fun id b hb => (cM.at_ id b hb).1) (zlP hLn) (fun k hk => ?_) ⟨rfl, rfl, rfl, rfl, rfl, rfl, rfl, rfl, rfl, trivial⟩ rfl rfl ⟨rfl, trivial⟩ rfl (fun id b hb => ?_)) ?_
 ·simp only [oD, decide_eq_true_eq, decide_eq_false_iff_not] at hk ⊢; omega
 ·show look ((27, _) :: (famT L 300 ++ [])) id = _
  rw [zc _ _ (by have := zad hb; omega)]
  exact zd1 hb
 repeat ((fail_if_success refine zb ?_); first | refine q_Y ?_ | ((first | apply q_K rfl | apply q_X rfl); (exact q_G)) | refine q_U ?_)
 have hR0 : ∀ id b, look (restO L M 0) id = some b → look ((27, tkrB L) :: (28, tkrB M) :: (famT M 600 ++ famT L 300)) id = some b := fun id b hb => by
  have hb : look (famT L 300 ++ famT M 600) id = some b := hb
  rw [zI] at hb
  cases hl : look (famT L 300) id with
  | some c =>
   rw [hl] at hb; cases hb
   have h1 := zad hl
   rw [zc _ _ (by omega), zc _ _ (by omega)]
   exact zjG (zlP hMn) (by simp only [oD, decide_eq_false_iff_not]; omega) hl
  | none =>
   rw [hl] at hb
   have hb : look (famT M 600) id = some b := hb
   have h1 := zad hb
   rw [zc _ _ (by omega), zc _ _ (by omega)]
   exact zd1 hb
 try refine zS ?_
 refine zw (fun s : Nat × List Dat => oE d l rs ospf W s.1) (fun s => [(27, .row 52 9 L.length s.2), (28, tkrB M)] ++ restO L M s.1) (fun s => s.1 ≤ L.length ∧ s.2.length = L.length * 9 ∧ s.2.drop (s.1 * 9) = (L.drop s.1).flatMap tkrD) (fun s => L.length - s.1) (0, L.flatMap tkrD) ⟨Nat.zero_le _, zM zb5 L, by simp⟩ (by dsimp only; exact zaf (h1 := [(27, tkrB L), (28, tkrB M)]) ⟨rfl, rfl, rfl, rfl, rfl, rfl, rfl, rfl, rfl, trivial⟩ ⟨rfl, rfl, trivial⟩ hR0) ?_
 clear hR0 hov hov2 hvd
 rintro ⟨i, cs⟩ ⟨hi, hcl, hcd⟩
 try dsimp only at hi hcl hcd ⊢
 by_cases hiL : i < L.length
 rotate_left
 ·obtain rfl : i = L.length := by omega
  repeat ((fail_if_success refine zb ?_); first | refine q_Y ?_ | ((first | apply q_K rfl | apply q_X rfl); (first | exact q_F | (first | exact q_H | (first | exact q_25 | exact q_26)))) | refine q_U ?_ | (first | refine q_O hsm ?_ | refine q_O haw ?_))
  exact zk rfl ⟨rfl, rfl⟩
 have hiM : i < M.length := by omega
 have hiW : i < W.length := by omega
 have hLi : L[i].t = W[i] := by simp only [← hL, List.getElem_map]
 have hMi : M[i].t = W[i] := by simp only [← hM, List.getElem_map]
 have hm9 : (i + 1) * 9 ≤ L.length * 9 := Nat.mul_le_mul_right _ hiL
 have hsi := hsb W[i] (List.getElem_mem hiW)
 have hwt := zpa (nt := 182) (e := oE d l rs ospf W i) (e1 := oE d l rs ospf W i) (h := [(27, .row 52 9 L.length cs), (28, tkrB M)] ++ restO L M i) (cs := cs) (n := L.length) hiL hiM hLn hMn ⟨rfl, rfl, rfl, rfl, rfl, rfl, rfl, rfl, rfl, trivial⟩ rfl rfl (fun id b hb => by have hcR := zcc hLn hMn (i := i) (by omega) (by omega); repeat (first | exact hb | refine hcR.cons hb rfl ?_ | refine hcR.killH hb rfl ?_)) rfl
 have w0 := zfR hiL hcd 0 1 (by decide)
 have w1 := zfR hiL hcd 1 8 (by decide)
 have w6 := zfR hiL hcd 6 1 (by decide)
 have w7 := zfR hiL hcd 7 1 (by decide)
 rw [show i * 9 + 6 = i * 9 + 1 + 5 by omega] at w6
 rw [show i * 9 + 7 = i * 9 + 1 + 6 by omega] at w7
 have v0 := zx zb5 M i 0 1 hiM (by decide)
 have v1 := zx zb5 M i 1 8 hiM (by decide)
 have u0 := zx zgC W i 0 1 hiW (by decide)
 have u1 := zx zgC W i 1 8 hiW (by decide)
 have hdr := fun z => zno (z := z) hiL hcl hcd
 obtain ⟨x, hx⟩ : ∃ x, L[i] = x := ⟨_, rfl⟩
 obtain ⟨y, hy⟩ : ∃ y, M[i] = y := ⟨_, rfl⟩
 obtain ⟨t, ht⟩ : ∃ t, W[i] = t := ⟨_, rfl⟩
 rw [hx] at hLi w0 w1 w6 w7 hwt
 rw [hy] at hMi v0 v1 hwt
 rw [ht] at hLi hMi u0 u1 hsi
 clear hx hy ht
 obtain ⟨xt, v, w⟩ := x
 obtain ⟨yt, v', w'⟩ := y
 dsimp only at hLi hMi hwt
 subst hLi
 subst hMi
 obtain ⟨ri, s⟩ := yt
 have w0 : win cs (i * 9 + 0) 1 = [iD (ri : Int)] := w0
 have w1 : win cs (i * 9 + 1) 8 = sbjH s v w := w1
 have w6 : win cs (i * 9 + 1 + 5) 1 = [.sc v] := w6
 have w7 : win cs (i * 9 + 1 + 6) 1 = [.sc w] := w7
 have v0 : win (M.flatMap tkrD) (i * 9 + 0) 1 = [iD (ri : Int)] := v0
 have v1 : win (M.flatMap tkrD) (i * 9 + 1) 8 = sbjH s v' w' := v1
 have u0 : win (W.flatMap tkD2) (i * 9 + 0) 1 = [iD (ri : Int)] := u0
 have u1 : win (W.flatMap tkD2) (i * 9 + 1) 8 = sbjD s := u1
 have hpl : s.path.length ≤ 1000000000 := hsi.1
 have hcl2 : s.com.length ≤ 1000000000 := hsi.2
 have hs16 := zkG s (by have := hsi.1; dsimp only at this; omega) (by have := hsi.2; dsimp only at this; omega)
 refine zt hwt ?_
 clear hwt
 try dsimp only
 repeat ((fail_if_success refine zb ?_); first | refine q_Y ?_ | ((first | apply q_K rfl | apply q_X rfl); (first | exact q_F | (first | exact q_A | exact q_R (w := (by first | exact u0 | exact u1 | rfl)) | exact q_B | (first | exact q_I i hiW | exact zi (j := i) za rfl rfl rfl rfl rfl rfl rfl hiL | exact zi (j := i) za rfl rfl rfl rfl rfl rfl rfl hiM | exact zg za rfl rfl rfl rfl rfl rfl w0 rfl rfl | exact zg za rfl rfl rfl rfl rfl rfl w1 rfl rfl | exact zg za rfl rfl rfl rfl rfl rfl w6 rfl rfl | exact zg za rfl rfl rfl rfl rfl rfl w7 rfl rfl | exact zg za rfl rfl rfl rfl rfl rfl v0 rfl rfl | exact zg za rfl rfl rfl rfl rfl rfl v1 rfl rfl | exact q_25 | exact q_26)))) | refine q_U ?_ | (refine Q_cR (cs := [aggD (sbjH s v w), aggD (sbjD s)]) (.cons (zgI (i := 6) (j := 7) rfl rfl) (.cons (.same _) .nil)) hs16 rfl rfl rfl rfl rfl rfl (fun _ _ _ => zaJ _ _ _ _ _ rfl rfl) ?_))
 try refine zS ?_
 refine zw (fun q : Nat × List Dat => (17, natA q.1) :: oE d l rs ospf W i) (fun q => [(27, .row 52 9 L.length cs), (28, tkrB M), (6, .rowx v 44 1 s.path.length q.2), (7, uX w s.com), (8, uX v' s.path), (9, uX w' s.com)] ++ restO L M (i + 1)) (fun q => q.1 ≤ s.path.length ∧ q.2.length = s.path.length) (fun q => s.path.length - q.1) (0, s.path.flatMap u1D) ⟨Nat.zero_le _, zfV _⟩ (by dsimp only; exact zaf ⟨rfl, rfl, rfl, rfl, rfl, rfl, rfl, rfl, rfl, rfl, trivial⟩ ⟨rfl, rfl, rfl, rfl, rfl, rfl, trivial⟩ (fun id b hb => by have hcR := zcc hLn hMn (i := i + 1) (by omega) (by omega); repeat (first | exact hb | refine hcR.cons hb rfl ?_ | refine hcR.killH hb rfl ?_)) ) ?_
 rintro ⟨k, ds⟩ ⟨hk, hds⟩
 try dsimp only at hk hds ⊢
 by_cases hkn : k < s.path.length
 ·
  repeat ((fail_if_success refine zb ?_); first | refine q_Y ?_ | ((first | apply q_K rfl | apply q_X rfl); (first | exact q_F | (first | exact q_H | (first | exact q_I i hiW | exact zi (j := i) za rfl rfl rfl rfl rfl rfl rfl hiL | exact zi (j := i) za rfl rfl rfl rfl rfl rfl rfl hiM | exact zg za rfl rfl rfl rfl rfl rfl w0 rfl rfl | exact zg za rfl rfl rfl rfl rfl rfl w1 rfl rfl | exact zg za rfl rfl rfl rfl rfl rfl w6 rfl rfl | exact zg za rfl rfl rfl rfl rfl rfl w7 rfl rfl | exact zg za rfl rfl rfl rfl rfl rfl v0 rfl rfl | exact zg za rfl rfl rfl rfl rfl rfl v1 rfl rfl | exact zgt (id := 6) rfl za rfl rfl rfl | exact zhE (id := 6) rfl hkn za rfl rfl rfl rfl rfl rfl)))) | refine q_U ?_)
  refine zhF (id := 6) (ds := [.sc (.int .u32 99)]) rfl (by omega) (by omega) za rfl rfl rfl rfl rfl rfl rfl rfl rfl ?_
  repeat ((fail_if_success refine zb ?_); first | refine q_Y ?_ | ((first | apply q_K rfl | apply q_X rfl); (exact q_G)) | refine q_U ?_)
  exact ⟨(k + 1, setW ds (k * 1) [.sc (.int .u32 99)]), ⟨by (try dsimp only); omega, (zdP (by show k * 1 + 1 ≤ _; omega)).trans hds⟩, by (try dsimp only); omega, by dsimp only; exact zaf ⟨rfl, rfl, rfl, rfl, rfl, rfl, rfl, rfl, rfl, rfl, trivial⟩ ⟨rfl, rfl, rfl, rfl, rfl, rfl, trivial⟩ (fun id b hb => by have hcR := zcc hLn hMn (i := i + 1) (by omega) (by omega); repeat (first | exact hb | refine hcR.cons hb rfl ?_ | refine hcR.killH hb rfl ?_)) ⟩
 obtain rfl : k = s.path.length := by omega
 repeat ((fail_if_success refine zb ?_); first | refine q_Y ?_ | ((first | apply q_K rfl | apply q_X rfl); (first | exact q_F | (first | exact q_H | (first | exact q_I i hiW | exact zi (j := i) za rfl rfl rfl rfl rfl rfl rfl hiL | exact zi (j := i) za rfl rfl rfl rfl rfl rfl rfl hiM | exact zg za rfl rfl rfl rfl rfl rfl w0 rfl rfl | exact zg za rfl rfl rfl rfl rfl rfl w1 rfl rfl | exact zg za rfl rfl rfl rfl rfl rfl w6 rfl rfl | exact zg za rfl rfl rfl rfl rfl rfl w7 rfl rfl | exact zg za rfl rfl rfl rfl rfl rfl v0 rfl rfl | exact zg za rfl rfl rfl rfl rfl rfl v1 rfl rfl | exact zgt (id := 6) rfl za rfl rfl rfl)))) | refine q_U ?_)
 try refine zS ?_
 refine zw (fun q : Nat × List Dat => (18, natA q.1) :: oE d l rs ospf W i) (fun q => [(27, .row 52 9 L.length cs), (28, tkrB M), (7, .rowx w 44 1 s.com.length q.2), (8, uX v' s.path), (9, uX w' s.com)] ++ restO L M (i + 1)) (fun q => q.1 ≤ s.com.length ∧ q.2.length = s.com.length) (fun q => s.com.length - q.1) (0, s.com.flatMap u1D) ⟨Nat.zero_le _, zfV _⟩ (by dsimp only; exact zaf ⟨rfl, rfl, rfl, rfl, rfl, rfl, rfl, rfl, rfl, rfl, trivial⟩ ⟨rfl, rfl, rfl, rfl, rfl, trivial⟩ (fun id b hb => by have hcR := zcc hLn hMn (i := i + 1) (by omega) (by omega); repeat (first | exact hb | refine hcR.cons hb rfl ?_ | refine hcR.killH hb rfl ?_)) ) ?_
 rintro ⟨k, ds⟩ ⟨hk, hds⟩
 try dsimp only at hk hds ⊢
 by_cases hkn : k < s.com.length
 ·
  repeat ((fail_if_success refine zb ?_); first | refine q_Y ?_ | ((first | apply q_K rfl | apply q_X rfl); (first | exact q_F | (first | exact q_H | (first | exact q_I i hiW | exact zi (j := i) za rfl rfl rfl rfl rfl rfl rfl hiL | exact zi (j := i) za rfl rfl rfl rfl rfl rfl rfl hiM | exact zg za rfl rfl rfl rfl rfl rfl w0 rfl rfl | exact zg za rfl rfl rfl rfl rfl rfl w1 rfl rfl | exact zg za rfl rfl rfl rfl rfl rfl w6 rfl rfl | exact zg za rfl rfl rfl rfl rfl rfl w7 rfl rfl | exact zg za rfl rfl rfl rfl rfl rfl v0 rfl rfl | exact zg za rfl rfl rfl rfl rfl rfl v1 rfl rfl | exact zgt (id := 7) rfl za rfl rfl rfl | exact zhE (id := 7) rfl hkn za rfl rfl rfl rfl rfl rfl)))) | refine q_U ?_)
  refine zhF (id := 7) (ds := [.sc (.int .u32 99)]) rfl (by omega) (by omega) za rfl rfl rfl rfl rfl rfl rfl rfl rfl ?_
  repeat ((fail_if_success refine zb ?_); first | refine q_Y ?_ | ((first | apply q_K rfl | apply q_X rfl); (exact q_G)) | refine q_U ?_)
  exact ⟨(k + 1, setW ds (k * 1) [.sc (.int .u32 99)]), ⟨by (try dsimp only); omega, (zdP (by show k * 1 + 1 ≤ _; omega)).trans hds⟩, by (try dsimp only); omega, by dsimp only; exact zaf ⟨rfl, rfl, rfl, rfl, rfl, rfl, rfl, rfl, rfl, rfl, trivial⟩ ⟨rfl, rfl, rfl, rfl, rfl, trivial⟩ (fun id b hb => by have hcR := zcc hLn hMn (i := i + 1) (by omega) (by omega); repeat (first | exact hb | refine hcR.cons hb rfl ?_ | refine hcR.killH hb rfl ?_)) ⟩
 obtain rfl : k = s.com.length := by omega
 repeat ((fail_if_success refine zb ?_); first | refine q_Y ?_ | ((first | apply q_K rfl | apply q_X rfl); (first | exact q_F | (first | exact q_H | (first | exact q_I i hiW | exact zi (j := i) za rfl rfl rfl rfl rfl rfl rfl hiL | exact zi (j := i) za rfl rfl rfl rfl rfl rfl rfl hiM | exact zg za rfl rfl rfl rfl rfl rfl w0 rfl rfl | exact zg za rfl rfl rfl rfl rfl rfl w1 rfl rfl | exact zg za rfl rfl rfl rfl rfl rfl w6 rfl rfl | exact zg za rfl rfl rfl rfl rfl rfl w7 rfl rfl | exact zg za rfl rfl rfl rfl rfl rfl v0 rfl rfl | exact zg za rfl rfl rfl rfl rfl rfl v1 rfl rfl | exact zgt (id := 7) rfl za rfl rfl rfl)))) | refine q_U ?_)
 refine zcL (ds := [iD (-1)]) za rfl rfl rfl rfl rfl rfl rfl rfl rfl rfl (by omega) (by omega) ?_
 repeat ((fail_if_success refine zb ?_); first | refine q_Y ?_ | ((first | apply q_K rfl | apply q_X rfl); (first | exact q_F | (first | exact q_A | exact q_R (w := (by first | exact u0 | exact u1 | rfl)) | exact q_B | (first | exact q_I i hiW | exact zi (j := i) za rfl rfl rfl rfl rfl rfl rfl hiL | exact zi (j := i) za rfl rfl rfl rfl rfl rfl rfl hiM | exact zg za rfl rfl rfl rfl rfl rfl w0 rfl rfl | exact zg za rfl rfl rfl rfl rfl rfl w1 rfl rfl | exact zg za rfl rfl rfl rfl rfl rfl w6 rfl rfl | exact zg za rfl rfl rfl rfl rfl rfl w7 rfl rfl | exact zg za rfl rfl rfl rfl rfl rfl v0 rfl rfl | exact zg za rfl rfl rfl rfl rfl rfl v1 rfl rfl | exact q_25 | exact q_26)))) | refine q_U ?_ | (refine Q_cR (cs := [aggD (sbjH s v' w'), aggD (sbjD s)]) (.cons (zgI (i := 8) (j := 9) rfl rfl) (.cons (.same _) .nil)) hs16 rfl rfl rfl rfl rfl rfl (fun _ _ _ => zaJ _ _ _ _ _ rfl rfl) ?_))
 exact ⟨(i + 1, setW cs (i * 9 + 0) [iD (-1)]), ⟨hiL, (zdP (by show i * 9 + 0 + 1 ≤ _; omega)).trans hcl, hdr _⟩, by (try dsimp only); omega, by dsimp only; exact zaf ⟨rfl, rfl, rfl, rfl, rfl, rfl, rfl, rfl, rfl, trivial⟩ ⟨rfl, rfl, trivial⟩ (fun id b hb => by have hcR := zcc hLn hMn (i := i + 1) (by omega) (by omega); repeat (first | exact hb | refine hcR.cons hb rfl ?_ | refine hcR.killH hb rfl ?_)) ⟩
end Ab
end Go.Proofs.YtmmdkjanmegjdaaGreat

namespace Go.Proofs.YtmmdkjanmegjdaaGreat
open Go.ChangeShapes Go.WideShapes Go.ChangeAt Go.RowKit
def WalkedU (k : FuncId) (params : List TypeId) : Prop :=
 ∀ (H : Type) (enc : TypeId × Value → H) (W : World) (args : Array Value) (ds : List (DataW H)) (ps : List MemPlace), (∀ (j : Nat) t v, params[j]? = some t → args[j]? = some v → ∃ base, Value.okWide Tryz.prog W .any base t v) →
  DataW.TrodAll enc Tryz.prog W 0 (fun _ => true) true params args.toList ds ps → (DataW.weightsEach Tryz.prog params ds).all (· ≤ reachBytes) = true → Rows.uptoBulkAll ds ≤ 1048576 → Calls Tryz.prog k args W (Ret W (.bool true))
theorem zjJ {k : FuncId} {f : Func} {s : ChangeSpec} {tb : TypeId} (hf : Tryz.prog.funcs[k]? = some f) (hno : Tryz.prog.inits.idxOf? k = none) (hrt : f.resultTypes = #[tb]) (hub : Tryz.prog.underlying tb = some .bool)
  (hv : s.vars = []) (hvt : (Rows.OpenSpec.upto s).bare.plain.varTypes Tryz.prog = [])
  (hfn : ∀ (H : Type) (ds : List (DataW H)), ds.length = f.params.size → (s.fn H ds).results = [.lit (.bool true)] ∧ (s.fn H ds).args = ds ∧ (s.fn H ds).vars = [])
  (hr : ∀ t ∈ f.params.toList, Tryz.prog.readableRec t = true ∧ t < Tryz.prog.types.size) (walk : WalkedU k f.params.toList)
  (os : Os) (started : os.Started) (H : Type) (enc : TypeId × Value → H) (F : Stop.Interp)
  (wit : ∃ (w : World) (tape : Tape) (i : Input), w.os = os ∧ (w.forCall tape i).Shaped Tryz.prog ∧ i.vars = [] ∧ Input.okWide Tryz.prog (w.forCall tape i) .any w.heap.size k i ∧
   (Rows.OpenSpec.upto s).pre6 enc Tryz.prog f [] false (w.forCall tape i).memory i.args ∧ ({} : Assume).holds Tryz.prog (lone (Frame.enter Tryz.prog k i.args .normal) [] (w.forCall tape i))) :
  ReturnsInHanded {} Tryz.checked os k .any ((Rows.OpenSpec.upto s).pre6 enc Tryz.prog f [] false) (((Rows.OpenSpec.upto s).at F).post enc Tryz.prog f false true false false) := by
 refine returnsInHanded_of_cond_sized (C := Tryz.checked) (s := Rows.OpenSpec.upto s) (k := Rows.uptoSmall) rfl own_ started hno hf wit ?_
 intro W base args ds gs before hval0 hW _ hk hsz _
 have hW' : DataW.Whole enc Tryz.prog f.params.toList s.vars false W args.toList ds gs before := hW
 obtain ⟨p, q, hA0, hV, _, _, _⟩ := hW'
 have hW' : DataW.Whole enc Tryz.prog f.params.toList s.vars false W args.toList ds gs before := hW
 have hA : DataW.TrodAll enc Tryz.prog W 0 (fun _ => true) true f.params.toList args.toList ds p := hA0
 have hg : gs = [] := by
  rw [hv] at hV
  exact (trodVars_none hV).1
 subst hg
 have hlen : ds.length = f.params.size := by
  have : ∀ (ts : List TypeId) (vs : List Value) (ds : List (DataW H)) (ps : List MemPlace), DataW.TrodAll enc Tryz.prog W 0 (fun _ => true) true ts vs ds ps → ds.length = ts.length := by
   intro ts
   induction ts with
   | nil => intro vs ds ps h; obtain ⟨_, rfl, _⟩ := trodAll_nil h; rfl
   | cons t ts ih =>
    intro vs ds ps h
    obtain ⟨_, _, _, _, _, _, _, rfl, _, _, h2⟩ := trodAll_cons h
    simp [ih _ _ _ h2]
  simpa using this _ _ _ _ hA
 have hF := hfn H ds hlen
 have hsz' : (DataW.weightsEach Tryz.prog f.params.toList ds).all (· ≤ reachBytes) = true := by
  have e : (Rows.OpenSpec.upto s).bare.plain.varTypes (Tryz.checked).prog = [] := hvt
  rw [e, List.append_nil, List.append_nil] at hsz
  exact hsz
 have hbk : Rows.uptoBulkAll ds ≤ 1048576 := by
  rw [List.append_nil] at hk
  exact of_decide_eq_true hk
 refine (walk H enc W args ds p (fun j t v h1 h2 => ⟨base, hval0 j t v (by simpa using h1) h2⟩) hA hsz' hbk).mono ?_
 rintro e W' ⟨rfl, hb⟩
 refine ⟨_, rfl, ?_⟩
 show s.post enc Tryz.prog f false true false false W args (.bool true) W'
 refine zlg hrt hub hv ?_ ?_ ?_ zpB hr hW' hb
 ·rw [List.append_nil]; exact hF.1
 ·rw [List.append_nil]; exact hF.2.1
 ·rw [List.append_nil]; exact hF.2.2
end Go.Proofs.YtmmdkjanmegjdaaGreat

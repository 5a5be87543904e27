/-
 Texts of a proof, one behind the other (part 49).
-/
import Derived.Test.YtmmdkjanmegjdaaGreatRv4
import Derived.Test.YtmmdkjanmegjdaaGreatRv24
import Derived.Test.YtmmdkjanmegjdaaGreatRv34
import Derived.Test.YtmmdkjanmegjdaaGreatRv47
set_option linter.unusedSimpArgs false
set_option linter.unusedVariables false
namespace Go.Proofs.YtmmdkjanmegjdaaGreat.Ab
set_option maxRecDepth 100000
open Go.RowKit Go.Lib
abbrev TR := (Nat → Int) × List (Pfx × List Rte)
def putT (s : TR) (p : Pfx) (v : List Rte) : TR := if chk p = 0 then (if (aget s.2 p).isSome then s.1 else bump s.1 p.b.toNat 1, Go.Proofs.YtmmdkjanmegjdaaGreat.aput s.2 p v) else s
def ofP (l : List Rte) (p : Pfx) : List Rte := l.filter fun r => decide (r.p = p)
structure ROk (s : TR) (l : List Rte) : Prop where
 nd : (s.2.map (·.1)).Nodup
 good : ∀ p ∈ s.2, good p.1
 used : ∀ p ∈ s.2, 1 ≤ s.1 p.1.b.toNat
 ub : ∀ j, 0 ≤ s.1 j ∧ s.1 j ≤ l.length
 val : ∀ p v, aget s.2 p = some v → v = ofP l p ∧ v ≠ []
 has : ∀ r ∈ l, Go.Proofs.YtmmdkjanmegjdaaGreat.good r.p → ∃ v, aget s.2 r.p = some v
theorem ROk.zero : ROk (fun _ => 0, []) [] := ⟨.nil, by simp, by simp, fun _ => ⟨Int.le_refl _, Int.le_refl _⟩, fun p v h => absurd (z8 h) (by simp), by simp⟩
theorem ROk.old {s : TR} {l : List Rte} (R : ROk s l) (p : Pfx) (hg : Go.Proofs.YtmmdkjanmegjdaaGreat.good p) : (aget s.2 p).getD [] = ofP l p := by
 cases h : aget s.2 p with
 | some v => exact (R.val p v h).1
 | none =>
  refine (List.filter_eq_nil_iff.2 fun r hr => ?_).symm
  intro hp
  have hp : r.p = p := by simpa using hp
  obtain ⟨v, hv⟩ := R.has r hr (by rw [hp]; exact hg)
  rw [hp, h] at hv; cases hv
theorem zgU (l : List Rte) (r : Rte) (p : Pfx) : ofP (l ++ [r]) p = ofP l p ++ (if r.p = p then [r] else []) := by
 unfold ofP
 rw [List.filter_append]
 congr 1
 by_cases h : r.p = p <;> simp [h]
theorem ROk.put {s : TR} {l : List Rte} (R : ROk s l) (r : Rte) : ROk (putT s r.p ((aget s.2 r.p).getD [] ++ [r])) (l ++ [r]) := by
 unfold putT
 by_cases hc : chk r.p = 0
 ·rw [if_pos hc]
  have hg := (zbl r.p).1 hc
  rw [R.old r.p hg]
  have hmono : ∀ j, s.1 j ≤ (if (aget s.2 r.p).isSome then s.1 else bump s.1 r.p.b.toNat 1) j := fun j => by
   split
   ·exact Int.le_refl _
   ·unfold bump; split <;> omega
  refine ⟨zbm R.nd, fun q hq => ?_, fun q hq => ?_, fun j => ?_, fun p v hv => ?_, fun q hq hgq => ?_⟩
  ·rcases (zbO R.nd).1 hq with h | h
   ·rw [h]; exact hg
   ·exact R.good q h.2
  ·rcases (zbO R.nd).1 hq with h | h
   ·rw [h]
    dsimp only
    split
    ·rename_i hs
     obtain ⟨z, hz⟩ := Option.isSome_iff_exists.1 hs
     exact R.used _ (z8 hz)
    ·have := (R.ub r.p.b.toNat).1
     unfold bump
     rw [if_pos rfl]
     omega
   ·exact Int.le_trans (R.used q h.2) (hmono _)
  ·have := R.ub j
   dsimp only
   rw [List.length_append]
   simp only [List.length_cons, List.length_nil]
   split
   ·exact ⟨this.1, by omega⟩
   ·unfold bump; split <;> exact ⟨by omega, by omega⟩
  ·dsimp only at hv
   rw [zfM R.nd] at hv
   rw [zgU]
   split at hv
   ·rename_i e
    subst e
    cases hv
    rw [if_pos rfl]
    exact ⟨rfl, by simp⟩
   ·rename_i e
    rw [if_neg (Ne.symm e), List.append_nil]
    exact R.val p v hv
  ·dsimp only
   rw [zfM R.nd]
   split
   ·exact ⟨_, rfl⟩
   ·rename_i e
    rcases List.mem_append.1 hq with h | h
    ·exact R.has q h hgq
    ·simp at h; subst h; exact absurd rfl e
 ·rw [if_neg hc]
  have hng : ¬ Go.Proofs.YtmmdkjanmegjdaaGreat.good r.p := fun h => hc ((zbl r.p).2 h)
  refine ⟨R.nd, R.good, R.used, fun j => ⟨(R.ub j).1, by have := (R.ub j).2; rw [List.length_append]; simp; omega⟩, fun p v hv => ?_, fun q hq hgq => ?_⟩
  ·have hgp := R.good _ (z8 hv)
   rw [zgU, if_neg fun h => hng (by rw [h]; exact hgp), List.append_nil]
   exact R.val p v hv
  ·rcases List.mem_append.1 hq with h | h
   ·exact R.has q h hgq
   ·simp at h; subst h; exact absurd hgq hng
theorem zfv {s : TR} {l : List Rte} (T : ROk s l) (x : Int) (q : Pfx) : q ∈ overS s.1 s.2 x 33 ↔ (∃ z, aget s.2 q = some z) ∧ inB x q = true := by
 unfold overS
 rw [List.mem_map]
 constructor
 ·rintro ⟨b, hb, rfl⟩
  have h1 := (List.mem_filter.1 hb).2
  simp only [Bool.and_eq_true] at h1
  obtain ⟨z, hz⟩ := Option.isSome_iff_exists.1 h1.2
  refine ⟨⟨z, hz⟩, ?_⟩
  rw [← zdx x _ (T.good _ (z8 hz))]
  exact decide_eq_true rfl
 ·rintro ⟨⟨z, hz⟩, hin⟩
  have hm := z8 hz
  have hg := T.good _ hm
  rw [← zdx x q hg, decide_eq_true_eq] at hin
  have hu := T.used _ hm
  obtain ⟨a, b⟩ := q
  have hb0 := hg.1
  have hb1 := hg.2.1
  dsimp only at hb0 hb1 hin hu
  obtain ⟨B, rfl⟩ : ∃ B : Nat, b = (B : Int) := ⟨b.toNat, by omega⟩
  have hsub : sub x (B : Int) = ⟨a, (B : Int)⟩ := by
   unfold sub
   rw [hin]
  rw [Int.toNat_natCast] at hu
  refine ⟨B, List.mem_filter.2 ⟨List.mem_range.2 (by omega), ?_⟩, hsub⟩
  rw [hsub, hz]
  simp
  omega
theorem zdr (u : Nat → Int) (m : List (Pfx × List Rte)) (x : Int) (k : Nat) : (overS u m x k).Pairwise fun p q => p.b < q.b := by
 unfold overS
 rw [List.pairwise_map]
 refine List.Pairwise.imp ?_ (List.Pairwise.filter _ List.pairwise_lt_range)
 intro a b h
 show (a : Int) < (b : Int)
 omega
theorem zeV {L : List Pfx} (hs : L.Pairwise fun p q : Pfx => p.b < q.b) {p q : Pfx} (h : L.getLast? = some p) (hq : q ∈ L) : q.b ≤ p.b := by
 rw [List.getLast?_eq_getElem?] at h
 obtain ⟨i, hi⟩ := List.getElem?_of_mem hq
 obtain ⟨h1, h2⟩ := List.getElem?_eq_some_iff.1 h
 obtain ⟨h3, h4⟩ := List.getElem?_eq_some_iff.1 hi
 rcases Nat.lt_or_ge i (L.length - 1) with h5 | h5
 ·have := List.pairwise_iff_getElem.1 hs i (L.length - 1) h3 h1 h5
  rw [h2, h4] at this
  omega
 ·have : i = L.length - 1 := by omega
  subst this
  rw [h2] at h4
  rw [h4]
  exact Int.le_refl _
def topB (l : List Rte) (x : Int) (r : Rte) : Bool := inB x r.p && l.all fun s => !(inB x s.p) || decide (s.p.b ≤ r.p.b)
theorem zgB {l : List Rte} {x : Int} {r : Rte} : topB l x r = true ↔ inB x r.p = true ∧ ∀ s ∈ l, inB x s.p = true → s.p.b ≤ r.p.b := by
 unfold topB
 rw [Bool.and_eq_true, List.all_eq_true]
 refine and_congr_right fun _ => forall_congr' fun s => forall_congr' fun _ => ?_
 cases inB x s.p <;> simp
def longL (l : List Rte) (x : Int) : List Rte := sortU ordR (l.filter (topB l x))
theorem znc {x : Int} {p q : Pfx} (hp : inB x p = true) (hq : inB x q = true) (h : p.b = q.b) : p = q := by
 have e1 := zdx x p (zeX hp)
 have e2 := zdx x q (zeX hq)
 rw [hp, decide_eq_true_eq] at e1
 rw [hq, decide_eq_true_eq] at e2
 obtain ⟨a, b⟩ := p
 obtain ⟨c, d⟩ := q
 dsimp only at *
 subst h
 rw [← e1, ← e2]
theorem zm7 {s : TR} {l : List Rte} (R : ROk s l) (x : Int) : (longR s.1 s.2 x).2.1 = l.filter (topB l x) := by
 have inO : ∀ r ∈ l, inB x r.p = true → r.p ∈ overS s.1 s.2 x 33 := fun r hr hi => (zfv R x r.p).2 ⟨R.has r hr (zeX hi), hi⟩
 unfold longR
 cases hL : (overS s.1 s.2 x 33).getLast? with
 | none =>
  have h0 : overS s.1 s.2 x 33 = [] := List.getLast?_eq_none_iff.1 hL
  dsimp only
  refine (List.filter_eq_nil_iff.2 fun r hr ht => ?_).symm
  have := inO r hr (zgB.1 ht).1
  rw [h0] at this
  cases this
 | some p =>
  dsimp only
  have hp := (zfv R x p).1 (List.mem_of_getLast? hL)
  obtain ⟨⟨v, hv⟩, hin⟩ := hp
  obtain ⟨hv1, hv2⟩ := R.val p v hv
  rw [hv]
  show v = _
  rw [hv1]
  obtain ⟨t, ht⟩ := List.exists_mem_of_ne_nil v hv2
  rw [hv1] at ht
  have ht2 := List.mem_filter.1 ht
  have htp : t.p = p := by simpa using ht2.2
  refine List.filter_congr fun r hr => ?_
  rw [Bool.eq_iff_iff, decide_eq_true_eq, zgB]
  constructor
  ·intro e
   subst e
   exact ⟨hin, fun s hs hi => zeV (zdr _ _ _ _) hL (inO s hs hi)⟩
  ·rintro ⟨h1, h2⟩
   have h3 := zeV (zdr _ _ _ _) hL (inO r hr h1)
   have h4 := h2 t ht2.1 (by rw [htp]; exact hin)
   rw [htp] at h4
   exact znc h1 hin (by omega)
attribute [local irreducible] AWp AOps AQ AYield AEff ACall AWk AAny AAt AThen AIn APost NoPanic
section
variable {P : Program} {nt : Nat} {Q : Post} {e : Env} {h : Heap} {o : Oper} {ops : Array Oper} {rest : List Oper} {T : List Nat}
theorem zpn {f : FuncId} {args : Array Operand} {ats : Array TypeId} {cs : List AVal} {d : Nat} {u : Nat → Int} {l : List (Pfx × List Rte)} (H : ACall P f cs [] (fun c' h' => c' = .ptr 3 0 ∧ h' = [(3, tblB 902 u), (902, rmapB l)])) (hw : awant ops e o = some true) (hdst : o.dst = some d) (hd : Nat.blt d nt = true)
  (ho : o.op = .call { callee := .value (.func f), args := args, argTypes := ats }) (hx : aevs e args.toList = some cs) (HK : AOps P nt ops Q rest ((d, .ptr 3 0) :: killEs [3, 902] e) ((3, tblB 902 u) :: (902, rmapB l) :: killHs [3, 902] h)) : AOps P nt ops Q (o :: rest) e h :=
 zat (T := []) hw (zcu ho hdst hx H hd fun c' h' ⟨h1, h2⟩ => by
  subst h1 h2
  refine ⟨rfl, fun id b j hb hh => ?_, fun j hj => ?_⟩
  ·by_cases h3 : 3 = id
   ·subst h3
    rw [ze] at hb
    cases hb
    have hs : hasL j (usedA u) = false := zb7 j (usedA u) rfl
    have : (902 == j) = true := by
     have h9 : ((AVal.mp 902).has j || hasL j (usedA u)) = true := hh
     rw [hs, Bool.or_false] at h9
     exact h9
    have : 902 = j := by simpa using this
    subst this
    rfl
   ·rw [zc _ _ h3] at hb
    by_cases h4 : 902 = id
    ·subst h4
     rw [ze] at hb
     cases hb
     have h9 : (ents pfxA rtesA l).any (fun p => p.1.has j || p.2.has j) = true := hh
     obtain ⟨p, hp, h10⟩ := List.any_eq_true.1 h9
     obtain ⟨q, _, rfl⟩ := List.mem_map.1 hp
     rw [zbM j (pfxA q.1) rfl, zbM j (rtesA q.2) rfl] at h10
     cases h10
    ·rw [zc _ _ h4] at hb; cases hb
  ·have h9 : (3 == j) = true := hj
   have : 3 = j := by simpa using h9
   subst this
   rfl) fun e' h' ⟨c, h2, ⟨h3, h4⟩, h5, h6⟩ => by subst h3 h4 h5 h6; exact HK
theorem zgp {f : FuncId} {args : Array Operand} {ats : Array TypeId} {cs0 cs : List AVal} {c : AVal} {d fuel n : Nat} {listed : Array Bool} (i j : Nat) (hij : i ≠ j) {u u' : Nat → Int} {l l' : List (Pfx × List Rte)}
  (H : ACall P f cs [(1000, tblB 1001 u), (1001, rmapB l)] (fun c' h' => c' = c ∧ h' = [(1000, tblB 1001 u'), (1001, rmapB l')])) (hn : ops[n]? = some o) (hw : awant ops e o = some true) (hdst : o.dst = some d) (hd : Nat.blt d nt = true) (ho : o.op = .call { callee := .value (.func f), args := args, argTypes := ats }) (hx : aevs e args.toList = some cs0)
  (hok : cs.all (okV [(1000, i), (1001, j)]) = true) (hcs : cs.map (renV [(1000, i), (1001, j)]) = cs0) (hi : look h i = some (tblB j u)) (hj : look h j = some (rmapB l)) (hT1 : T.contains i = true) (hT2 : T.contains j = true)
  (HK : AAny P nt ops Q T fuel (listed.setIfInBounds n true) ((d, renV [(1000, i), (1001, j)] c) :: e) ((i, tblB j u') :: (j, rmapB l') :: h)) : AAt P nt ops Q T fuel listed n e h := by
 refine za5 hn hw (zi8 (h0 := [(1000, tblB 1001 u), (1001, rmapB l)]) [(1000, i), (1001, j)] ho hdst hx hcs (fun c hc => List.all_eq_true.1 hok c hc) ⟨⟨i, _, rfl, hi, zev i j u, zk6 i j u⟩, ⟨j, _, rfl, hj, zew _ l, zk7 _ l⟩, trivial⟩ (fun p k h1 => ?_) (fun p p' k h1 h2 => ?_) H hd (fun p k h1 => ?_) (fun c' h' ⟨_, hh⟩ p k h1 => ?_)) fun e' h' ⟨c', h2, ⟨h3, h4⟩, h5, h6⟩ => ?_
 ·rcases zbb h1 with ⟨h3, h4⟩ | ⟨h3, h4⟩ <;> subst h3 <;> exact ⟨by omega, rfl⟩
 ·rcases zbb h1 with ⟨h3, h4⟩ | ⟨h3, h4⟩ <;> rcases zbb h2 with ⟨h5, h6⟩ | ⟨h5, h6⟩ <;> omega
 ·rcases zbb h1 with ⟨h3, h4⟩ | ⟨h3, h4⟩ <;> subst h4 <;> assumption
 ·subst hh
  rcases zbb h1 with ⟨h3, h4⟩ | ⟨h3, h4⟩ <;> subst h3 <;> rfl
 ·subst h3 h4 h5 h6
  have e1 : renH [(1000, i), (1001, j)] [(1000, tblB 1001 u'), (1001, rmapB l')] ++ h = (i, tblB j u') :: (j, rmapB l') :: h := by
   show (i, renB _ (tblB 1001 u')) :: (j, renB _ (rmapB l')) :: ([] ++ h) = _
   rw [zev, zew]
   rfl
  rw [e1]
  exact HK
end
theorem zoE (s : TR) (l : List Rte) (R : ROk s l) (hl : l.length ≤ 1000000) (p : Pfx) (v : List Rte) (hp : p.ok) :
  ACall Tryz.prog 27 [.ptr 1000 0, pfxA p, rtesA v] [(1000, tblB 1001 s.1), (1001, rmapB s.2)] (fun c h => c = intA (chk p) ∧ h = [(1000, tblB 1001 (putT s p v).1), (1001, rmapB (putT s p v).2)]) :=
 (zpy s.1 s.2 p v hp R.nd fun j => ⟨(R.ub j).1, by have := (R.ub j).2; omega⟩).mono fun c h ⟨h1, h2⟩ => ⟨h1, by
  rw [h2]
  unfold putT
  split <;> rfl⟩
theorem zo4 (l : List Rte) : ACall Tryz.prog 28 [rtesA l] [] (Just (.full (l.flatMap rteD) l.length)) := by
 refine zf za Tryz.func28 rfl Tryz.ntmps28 (congrArg Array.toList Tryz.results28) (by kernel_rfl) rfl ?_
 repeat (first | refine q_Y ?_ | ((first | apply q_K rfl | apply q_X rfl); (first | exact q_H | (exact zpi za rfl rfl rfl rfl rfl rfl rfl rfl))) | refine q_U ?_)
 exact zk rfl ⟨rfl, rfl⟩
theorem zeK (v : List Rte) (r : Rte) : rtesA (v ++ [r]) = .d (.sl (v.flatMap rteD ++ rteD r) (v.length + 1)) := by
 unfold rtesA
 rw [List.flatMap_append, List.length_append]
 simp
theorem qqbw0 {T : List Nat} {e : Env} {h : Heap} {o : Oper} {c : AVal} (hy : AYield Tryz.prog T e h o c := by first | exact q_5 | exact q_7 | exact q_19) : AYield Tryz.prog T e h o c := hy
set_option maxHeartbeats 8000000 in
theorem zdm (l : List Rte) (hok : ∀ r ∈ l, okR r) (hn : l.length ≤ 1000000) (x : Int) (x0 : 0 ≤ x) (x1 : x < 4294967296) : ACall Tryz.prog 10 [rtesA l, .d (.sc (.int .u32 x))] [] (fun c h => c = .row 5 ∧ h = [(5, rteB (longL l x))]) := by
 refine zf za Tryz.func10 rfl Tryz.ntmps10 (congrArg Array.toList Tryz.results10) (by kernel_rfl) rfl ?_
 repeat (first | refine q_Z ?_ | ((first | apply q_K rfl | apply q_X rfl); (exact q_H)) | refine q_U ?_ | (refine zpn zpA rfl rfl rfl rfl rfl ?_))
 refine zw (fun y : Nat × TR => [(0, rtesA l), (1, .d (.sc (.int .u32 x))), (5, .ptr 3 0), (14, rtesA l), (15, intA (l.length : Int)), (16, intA (y.1 : Int))]) (fun y => [(3, tblB 902 y.2.1), (902, rmapB y.2.2)]) (fun y => y.1 ≤ l.length ∧ ROk y.2 (l.take y.1)) (fun y => l.length - y.1) (0, (fun _ => 0, [])) ⟨Nat.zero_le _, ROk.zero⟩ (q_S) ?_
 rintro ⟨k, s⟩ ⟨hk, R⟩
 dsimp only at hk R ⊢
 by_cases hlt : k < l.length
 ·have hkr := hok _ (List.getElem_mem hlt)
  have hat := zmx s.1 s.2 l[k].p R.nd
  have hlk : (l.take k).length ≤ 1000000 := by rw [List.length_take]; omega
  have hol : ((aget s.2 l[k].p).getD []).length ≤ 1000000 := by
   cases h : aget s.2 l[k].p with
   | none => simp
   | some v =>
    rw [(R.val _ _ h).1]
    exact Nat.le_trans (List.length_filter_le _ _) hlk
  have hcl := zo4 ((aget s.2 l[k].p).getD [])
  have hput := zoE s (l.take k) R hlk l[k].p ((aget s.2 l[k].p).getD [] ++ [l[k]]) hkr.2
  have hR2 := R.put l[k]
  rw [← zb6 l k hlt] at hR2
  repeat (first | refine q_Z ?_ | ((first | apply q_K rfl | apply q_X rfl); (first | exact q_A | exact q_R (w := (by first | exact zn zr l k _ hlt (by decide) | exact zx zr l k _ _ hlt (by decide) | exact zaj zr l k _ _ _ hlt (by decide) | rfl)) | exact q_B)) | refine q_U ?_)
  refine zgv 3 902 (by omega) hat rfl rfl rfl rfl rfl rfl rfl rfl (zal 7 s.2) ?_
  cases hag : aget s.2 l[k].p with
  | none =>
   rw [hag] at hcl hput hR2 hol
   simp only [Option.getD_none] at hcl hput hR2 hol
   rw [zeK] at hput
   repeat (first | refine q_Z ?_ | ((first | apply q_K rfl | apply q_X rfl); (exact q_H)) | refine q_U ?_)
   refine zt (zfd (t := 8) rfl zdj) ?_
   refine zt (q_S (e1 := [(0, rtesA l), (1, .d (.sc (.int .u32 x))), (5, .ptr 3 0), (7, .ptr 7 0), (8, rtesA ([] : List Rte)), (14, rtesA l), (15, intA (l.length : Int)), (16, intA (k : Int))]) (h1 := [(7, rteB1 l[k]), (3, tblB 902 s.1), (902, rmapB s.2)])) ?_
   refine zA [3, 902] mixed ?_
   repeat (first | ((first | apply q_M 0 rfl rfl (by kernel_rfl) (by decide +kernel) (by decide +kernel) rfl rfl rfl | apply q_M 1 rfl rfl (by kernel_rfl) (by decide +kernel) (by decide +kernel) rfl rfl rfl | apply q_M 2 rfl rfl (by kernel_rfl) (by decide +kernel) (by decide +kernel) rfl rfl rfl | apply q_M 3 rfl rfl (by kernel_rfl) (by decide +kernel) (by decide +kernel) rfl rfl rfl | apply q_M 4 rfl rfl (by kernel_rfl) (by decide +kernel) (by decide +kernel) rfl rfl rfl | apply q_M 5 rfl rfl (by kernel_rfl) (by decide +kernel) (by decide +kernel) rfl rfl rfl | apply q_M 6 rfl rfl (by kernel_rfl) (by decide +kernel) (by decide +kernel) rfl rfl rfl | apply q_M 7 rfl rfl (by kernel_rfl) (by decide +kernel) (by decide +kernel) rfl rfl rfl | apply q_M 8 rfl rfl (by kernel_rfl) (by decide +kernel) (by decide +kernel) rfl rfl rfl | apply q_M 9 rfl rfl (by kernel_rfl) (by decide +kernel) (by decide +kernel) rfl rfl rfl | apply q_M 10 rfl rfl (by kernel_rfl) (by decide +kernel) (by decide +kernel) rfl rfl rfl ); (exact q_H)) | (apply q_L 0 rfl rfl (by kernel_rfl) (by decide +kernel) (by decide +kernel) rfl rfl rfl; (exact qqbw0)) | (apply q_L 1 rfl rfl (by kernel_rfl) (by decide +kernel) (by decide +kernel) rfl rfl rfl; (exact qqbw0)) | (apply q_L 2 rfl rfl (by kernel_rfl) (by decide +kernel) (by decide +kernel) rfl rfl rfl; (exact qqbw0)) | (apply q_L 3 rfl rfl (by kernel_rfl) (by decide +kernel) (by decide +kernel) rfl rfl rfl; (exact qqbw0)) | (apply q_L 4 rfl rfl (by kernel_rfl) (by decide +kernel) (by decide +kernel) rfl rfl rfl; (exact qqbw0)) | (apply q_L 5 rfl rfl (by kernel_rfl) (by decide +kernel) (by decide +kernel) rfl rfl rfl; (exact qqbw0)) | (apply q_L 6 rfl rfl (by kernel_rfl) (by decide +kernel) (by decide +kernel) rfl rfl rfl; (exact qqbw0)) | refine zd (j := 0) (by decide +kernel) ?_ | refine zd (j := 1) (by decide +kernel) ?_ | refine zd (j := 2) (by decide +kernel) ?_ | refine zd (j := 3) (by decide +kernel) ?_ | refine zd (j := 4) (by decide +kernel) ?_ | refine zd (j := 5) (by decide +kernel) ?_ | refine zd (j := 6) (by decide +kernel) ?_ | refine zd (j := 7) (by decide +kernel) ?_ | refine zd (j := 8) (by decide +kernel) ?_ | refine zd (j := 9) (by decide +kernel) ?_ | refine zd (j := 10) (by decide +kernel) ?_ | refine zW za rfl rfl rfl rfl rfl rfl rfl ?_ | refine zJ za rfl rfl rfl rfl rfl rfl rfl rfl rfl rfl rfl rfl rfl ?_ | (apply zP rfl rfl rfl rfl; (first | exact q_2 | exact q_1 | first | exact q_5 | exact q_7 | exact q_19)) | refine zz (by decide +kernel) ?_)
   refine zcf (j := 4) (k := 6) (by decide +kernel) ?_ ?_
   ·refine zR rfl rfl rfl rfl rfl rfl hcl (fun _ => rfl) ?_
    repeat (first | ((first | apply q_M 0 rfl rfl (by kernel_rfl) (by decide +kernel) (by decide +kernel) rfl rfl rfl | apply q_M 1 rfl rfl (by kernel_rfl) (by decide +kernel) (by decide +kernel) rfl rfl rfl | apply q_M 2 rfl rfl (by kernel_rfl) (by decide +kernel) (by decide +kernel) rfl rfl rfl | apply q_M 3 rfl rfl (by kernel_rfl) (by decide +kernel) (by decide +kernel) rfl rfl rfl | apply q_M 4 rfl rfl (by kernel_rfl) (by decide +kernel) (by decide +kernel) rfl rfl rfl | apply q_M 5 rfl rfl (by kernel_rfl) (by decide +kernel) (by decide +kernel) rfl rfl rfl | apply q_M 6 rfl rfl (by kernel_rfl) (by decide +kernel) (by decide +kernel) rfl rfl rfl | apply q_M 7 rfl rfl (by kernel_rfl) (by decide +kernel) (by decide +kernel) rfl rfl rfl | apply q_M 8 rfl rfl (by kernel_rfl) (by decide +kernel) (by decide +kernel) rfl rfl rfl | apply q_M 9 rfl rfl (by kernel_rfl) (by decide +kernel) (by decide +kernel) rfl rfl rfl | apply q_M 10 rfl rfl (by kernel_rfl) (by decide +kernel) (by decide +kernel) rfl rfl rfl ); (exact q_H)) | (apply q_L 0 rfl rfl (by kernel_rfl) (by decide +kernel) (by decide +kernel) rfl rfl rfl; (exact qqbw0)) | (apply q_L 1 rfl rfl (by kernel_rfl) (by decide +kernel) (by decide +kernel) rfl rfl rfl; (exact qqbw0)) | (apply q_L 2 rfl rfl (by kernel_rfl) (by decide +kernel) (by decide +kernel) rfl rfl rfl; (exact qqbw0)) | (apply q_L 3 rfl rfl (by kernel_rfl) (by decide +kernel) (by decide +kernel) rfl rfl rfl; (exact qqbw0)) | (apply q_L 4 rfl rfl (by kernel_rfl) (by decide +kernel) (by decide +kernel) rfl rfl rfl; (exact qqbw0)) | (apply q_L 5 rfl rfl (by kernel_rfl) (by decide +kernel) (by decide +kernel) rfl rfl rfl; (exact qqbw0)) | (apply q_L 6 rfl rfl (by kernel_rfl) (by decide +kernel) (by decide +kernel) rfl rfl rfl; (exact qqbw0)) | refine zd (j := 0) (by decide +kernel) ?_ | refine zd (j := 1) (by decide +kernel) ?_ | refine zd (j := 2) (by decide +kernel) ?_ | refine zd (j := 3) (by decide +kernel) ?_ | refine zd (j := 4) (by decide +kernel) ?_ | refine zd (j := 5) (by decide +kernel) ?_ | refine zd (j := 6) (by decide +kernel) ?_ | refine zd (j := 7) (by decide +kernel) ?_ | refine zd (j := 8) (by decide +kernel) ?_ | refine zd (j := 9) (by decide +kernel) ?_ | refine zd (j := 10) (by decide +kernel) ?_ | refine zW za rfl rfl rfl rfl rfl rfl rfl ?_ | refine zJ za rfl rfl rfl rfl rfl rfl rfl rfl rfl rfl rfl rfl rfl ?_ | (apply zP rfl rfl rfl rfl; (first | exact q_2 | exact q_1 | first | exact q_5 | exact q_7 | exact q_19)) | refine zz (by decide +kernel) ?_ | first | refine zbE za rfl rfl rfl rfl rfl rfl rfl rfl rfl rfl rfl rfl ?_ | refine zgq za rfl rfl rfl rfl rfl rfl rfl rfl rfl rfl (Src.row rfl) (zM zr ([] : List Rte)) (by decide) rfl (by omega) ?_ | refine zgp 3 902 (by omega) hput rfl rfl rfl rfl rfl rfl rfl rfl rfl (zal 33 s.2) rfl rfl ?_)
    repeat (first | refine q_Z ?_ | ((first | apply q_K rfl | apply q_X rfl); (exact q_H)) | refine q_U ?_)
    exact ⟨(k + 1, putT s l[k].p (([] : List Rte) ++ [l[k]])), ⟨by dsimp only; omega, hR2⟩, by dsimp only; omega, q_S⟩
   ·refine zbE za rfl rfl rfl rfl rfl rfl rfl rfl rfl rfl rfl rfl ?_
    repeat (first | ((first | apply q_M 0 rfl rfl (by kernel_rfl) (by decide +kernel) (by decide +kernel) rfl rfl rfl | apply q_M 1 rfl rfl (by kernel_rfl) (by decide +kernel) (by decide +kernel) rfl rfl rfl | apply q_M 2 rfl rfl (by kernel_rfl) (by decide +kernel) (by decide +kernel) rfl rfl rfl | apply q_M 3 rfl rfl (by kernel_rfl) (by decide +kernel) (by decide +kernel) rfl rfl rfl | apply q_M 4 rfl rfl (by kernel_rfl) (by decide +kernel) (by decide +kernel) rfl rfl rfl | apply q_M 5 rfl rfl (by kernel_rfl) (by decide +kernel) (by decide +kernel) rfl rfl rfl | apply q_M 6 rfl rfl (by kernel_rfl) (by decide +kernel) (by decide +kernel) rfl rfl rfl | apply q_M 7 rfl rfl (by kernel_rfl) (by decide +kernel) (by decide +kernel) rfl rfl rfl | apply q_M 8 rfl rfl (by kernel_rfl) (by decide +kernel) (by decide +kernel) rfl rfl rfl | apply q_M 9 rfl rfl (by kernel_rfl) (by decide +kernel) (by decide +kernel) rfl rfl rfl | apply q_M 10 rfl rfl (by kernel_rfl) (by decide +kernel) (by decide +kernel) rfl rfl rfl ); (exact q_H)) | (apply q_L 0 rfl rfl (by kernel_rfl) (by decide +kernel) (by decide +kernel) rfl rfl rfl; (exact qqbw0)) | (apply q_L 1 rfl rfl (by kernel_rfl) (by decide +kernel) (by decide +kernel) rfl rfl rfl; (exact qqbw0)) | (apply q_L 2 rfl rfl (by kernel_rfl) (by decide +kernel) (by decide +kernel) rfl rfl rfl; (exact qqbw0)) | (apply q_L 3 rfl rfl (by kernel_rfl) (by decide +kernel) (by decide +kernel) rfl rfl rfl; (exact qqbw0)) | (apply q_L 4 rfl rfl (by kernel_rfl) (by decide +kernel) (by decide +kernel) rfl rfl rfl; (exact qqbw0)) | (apply q_L 5 rfl rfl (by kernel_rfl) (by decide +kernel) (by decide +kernel) rfl rfl rfl; (exact qqbw0)) | (apply q_L 6 rfl rfl (by kernel_rfl) (by decide +kernel) (by decide +kernel) rfl rfl rfl; (exact qqbw0)) | refine zd (j := 0) (by decide +kernel) ?_ | refine zd (j := 1) (by decide +kernel) ?_ | refine zd (j := 2) (by decide +kernel) ?_ | refine zd (j := 3) (by decide +kernel) ?_ | refine zd (j := 4) (by decide +kernel) ?_ | refine zd (j := 5) (by decide +kernel) ?_ | refine zd (j := 6) (by decide +kernel) ?_ | refine zd (j := 7) (by decide +kernel) ?_ | refine zd (j := 8) (by decide +kernel) ?_ | refine zd (j := 9) (by decide +kernel) ?_ | refine zd (j := 10) (by decide +kernel) ?_ | refine zW za rfl rfl rfl rfl rfl rfl rfl ?_ | refine zJ za rfl rfl rfl rfl rfl rfl rfl rfl rfl rfl rfl rfl rfl ?_ | (apply zP rfl rfl rfl rfl; (first | exact q_2 | exact q_1 | first | exact q_5 | exact q_7 | exact q_19)) | refine zz (by decide +kernel) ?_ | first | refine zR rfl rfl rfl rfl rfl rfl hcl (fun _ => rfl) ?_ | refine zgq za rfl rfl rfl rfl rfl rfl rfl rfl rfl rfl (Src.row rfl) (zM zr ([] : List Rte)) (by decide) rfl (by omega) ?_ | refine zgp 3 902 (by omega) hput rfl rfl rfl rfl rfl rfl rfl rfl rfl (zal 33 s.2) rfl rfl ?_)
    repeat (first | refine q_Z ?_ | ((first | apply q_K rfl | apply q_X rfl); (exact q_H)) | refine q_U ?_)
    exact ⟨(k + 1, putT s l[k].p (([] : List Rte) ++ [l[k]])), ⟨by dsimp only; omega, hR2⟩, by dsimp only; omega, q_S⟩
  | some v =>
   rw [hag] at hcl hput hR2 hol
   simp only [Option.getD_some] at hcl hput hR2 hol
   rw [zeK] at hput
   repeat (first | refine q_Z ?_ | ((first | apply q_K rfl | apply q_X rfl); (exact q_H)) | refine q_U ?_)
   refine zt (q_S (e1 := [(0, rtesA l), (1, .d (.sc (.int .u32 x))), (5, .ptr 3 0), (7, .ptr 7 0), (8, rtesA v), (14, rtesA l), (15, intA (l.length : Int)), (16, intA (k : Int))]) (h1 := [(7, rteB1 l[k]), (3, tblB 902 s.1), (902, rmapB s.2)])) ?_
   refine zA [3, 902] mixed ?_
   repeat (first | ((first | apply q_M 0 rfl rfl (by kernel_rfl) (by decide +kernel) (by decide +kernel) rfl rfl rfl | apply q_M 1 rfl rfl (by kernel_rfl) (by decide +kernel) (by decide +kernel) rfl rfl rfl | apply q_M 2 rfl rfl (by kernel_rfl) (by decide +kernel) (by decide +kernel) rfl rfl rfl | apply q_M 3 rfl rfl (by kernel_rfl) (by decide +kernel) (by decide +kernel) rfl rfl rfl | apply q_M 4 rfl rfl (by kernel_rfl) (by decide +kernel) (by decide +kernel) rfl rfl rfl | apply q_M 5 rfl rfl (by kernel_rfl) (by decide +kernel) (by decide +kernel) rfl rfl rfl | apply q_M 6 rfl rfl (by kernel_rfl) (by decide +kernel) (by decide +kernel) rfl rfl rfl | apply q_M 7 rfl rfl (by kernel_rfl) (by decide +kernel) (by decide +kernel) rfl rfl rfl | apply q_M 8 rfl rfl (by kernel_rfl) (by decide +kernel) (by decide +kernel) rfl rfl rfl | apply q_M 9 rfl rfl (by kernel_rfl) (by decide +kernel) (by decide +kernel) rfl rfl rfl | apply q_M 10 rfl rfl (by kernel_rfl) (by decide +kernel) (by decide +kernel) rfl rfl rfl ); (exact q_H)) | (apply q_L 0 rfl rfl (by kernel_rfl) (by decide +kernel) (by decide +kernel) rfl rfl rfl; (exact qqbw0)) | (apply q_L 1 rfl rfl (by kernel_rfl) (by decide +kernel) (by decide +kernel) rfl rfl rfl; (exact qqbw0)) | (apply q_L 2 rfl rfl (by kernel_rfl) (by decide +kernel) (by decide +kernel) rfl rfl rfl; (exact qqbw0)) | (apply q_L 3 rfl rfl (by kernel_rfl) (by decide +kernel) (by decide +kernel) rfl rfl rfl; (exact qqbw0)) | (apply q_L 4 rfl rfl (by kernel_rfl) (by decide +kernel) (by decide +kernel) rfl rfl rfl; (exact qqbw0)) | (apply q_L 5 rfl rfl (by kernel_rfl) (by decide +kernel) (by decide +kernel) rfl rfl rfl; (exact qqbw0)) | (apply q_L 6 rfl rfl (by kernel_rfl) (by decide +kernel) (by decide +kernel) rfl rfl rfl; (exact qqbw0)) | refine zd (j := 0) (by decide +kernel) ?_ | refine zd (j := 1) (by decide +kernel) ?_ | refine zd (j := 2) (by decide +kernel) ?_ | refine zd (j := 3) (by decide +kernel) ?_ | refine zd (j := 4) (by decide +kernel) ?_ | refine zd (j := 5) (by decide +kernel) ?_ | refine zd (j := 6) (by decide +kernel) ?_ | refine zd (j := 7) (by decide +kernel) ?_ | refine zd (j := 8) (by decide +kernel) ?_ | refine zd (j := 9) (by decide +kernel) ?_ | refine zd (j := 10) (by decide +kernel) ?_ | refine zW za rfl rfl rfl rfl rfl rfl rfl ?_ | refine zJ za rfl rfl rfl rfl rfl rfl rfl rfl rfl rfl rfl rfl rfl ?_ | (apply zP rfl rfl rfl rfl; (first | exact q_2 | exact q_1 | first | exact q_5 | exact q_7 | exact q_19)) | refine zz (by decide +kernel) ?_)
   refine zcf (j := 4) (k := 6) (by decide +kernel) ?_ ?_
   ·refine zR rfl rfl rfl rfl rfl rfl hcl (fun _ => rfl) ?_
    repeat (first | ((first | apply q_M 0 rfl rfl (by kernel_rfl) (by decide +kernel) (by decide +kernel) rfl rfl rfl | apply q_M 1 rfl rfl (by kernel_rfl) (by decide +kernel) (by decide +kernel) rfl rfl rfl | apply q_M 2 rfl rfl (by kernel_rfl) (by decide +kernel) (by decide +kernel) rfl rfl rfl | apply q_M 3 rfl rfl (by kernel_rfl) (by decide +kernel) (by decide +kernel) rfl rfl rfl | apply q_M 4 rfl rfl (by kernel_rfl) (by decide +kernel) (by decide +kernel) rfl rfl rfl | apply q_M 5 rfl rfl (by kernel_rfl) (by decide +kernel) (by decide +kernel) rfl rfl rfl | apply q_M 6 rfl rfl (by kernel_rfl) (by decide +kernel) (by decide +kernel) rfl rfl rfl | apply q_M 7 rfl rfl (by kernel_rfl) (by decide +kernel) (by decide +kernel) rfl rfl rfl | apply q_M 8 rfl rfl (by kernel_rfl) (by decide +kernel) (by decide +kernel) rfl rfl rfl | apply q_M 9 rfl rfl (by kernel_rfl) (by decide +kernel) (by decide +kernel) rfl rfl rfl | apply q_M 10 rfl rfl (by kernel_rfl) (by decide +kernel) (by decide +kernel) rfl rfl rfl ); (exact q_H)) | (apply q_L 0 rfl rfl (by kernel_rfl) (by decide +kernel) (by decide +kernel) rfl rfl rfl; (exact qqbw0)) | (apply q_L 1 rfl rfl (by kernel_rfl) (by decide +kernel) (by decide +kernel) rfl rfl rfl; (exact qqbw0)) | (apply q_L 2 rfl rfl (by kernel_rfl) (by decide +kernel) (by decide +kernel) rfl rfl rfl; (exact qqbw0)) | (apply q_L 3 rfl rfl (by kernel_rfl) (by decide +kernel) (by decide +kernel) rfl rfl rfl; (exact qqbw0)) | (apply q_L 4 rfl rfl (by kernel_rfl) (by decide +kernel) (by decide +kernel) rfl rfl rfl; (exact qqbw0)) | (apply q_L 5 rfl rfl (by kernel_rfl) (by decide +kernel) (by decide +kernel) rfl rfl rfl; (exact qqbw0)) | (apply q_L 6 rfl rfl (by kernel_rfl) (by decide +kernel) (by decide +kernel) rfl rfl rfl; (exact qqbw0)) | refine zd (j := 0) (by decide +kernel) ?_ | refine zd (j := 1) (by decide +kernel) ?_ | refine zd (j := 2) (by decide +kernel) ?_ | refine zd (j := 3) (by decide +kernel) ?_ | refine zd (j := 4) (by decide +kernel) ?_ | refine zd (j := 5) (by decide +kernel) ?_ | refine zd (j := 6) (by decide +kernel) ?_ | refine zd (j := 7) (by decide +kernel) ?_ | refine zd (j := 8) (by decide +kernel) ?_ | refine zd (j := 9) (by decide +kernel) ?_ | refine zd (j := 10) (by decide +kernel) ?_ | refine zW za rfl rfl rfl rfl rfl rfl rfl ?_ | refine zJ za rfl rfl rfl rfl rfl rfl rfl rfl rfl rfl rfl rfl rfl ?_ | (apply zP rfl rfl rfl rfl; (first | exact q_2 | exact q_1 | first | exact q_5 | exact q_7 | exact q_19)) | refine zz (by decide +kernel) ?_ | first | refine zbE za rfl rfl rfl rfl rfl rfl rfl rfl rfl rfl rfl rfl ?_ | refine zgq za rfl rfl rfl rfl rfl rfl rfl rfl rfl rfl (Src.row rfl) (zM zr v) (by decide) rfl (by omega) ?_ | refine zgp 3 902 (by omega) hput rfl rfl rfl rfl rfl rfl rfl rfl rfl (zal 33 s.2) rfl rfl ?_)
    repeat (first | refine q_Z ?_ | ((first | apply q_K rfl | apply q_X rfl); (exact q_H)) | refine q_U ?_)
    exact ⟨(k + 1, putT s l[k].p (v ++ [l[k]])), ⟨by dsimp only; omega, hR2⟩, by dsimp only; omega, q_S⟩
   ·refine zbE za rfl rfl rfl rfl rfl rfl rfl rfl rfl rfl rfl rfl ?_
    repeat (first | ((first | apply q_M 0 rfl rfl (by kernel_rfl) (by decide +kernel) (by decide +kernel) rfl rfl rfl | apply q_M 1 rfl rfl (by kernel_rfl) (by decide +kernel) (by decide +kernel) rfl rfl rfl | apply q_M 2 rfl rfl (by kernel_rfl) (by decide +kernel) (by decide +kernel) rfl rfl rfl | apply q_M 3 rfl rfl (by kernel_rfl) (by decide +kernel) (by decide +kernel) rfl rfl rfl | apply q_M 4 rfl rfl (by kernel_rfl) (by decide +kernel) (by decide +kernel) rfl rfl rfl | apply q_M 5 rfl rfl (by kernel_rfl) (by decide +kernel) (by decide +kernel) rfl rfl rfl | apply q_M 6 rfl rfl (by kernel_rfl) (by decide +kernel) (by decide +kernel) rfl rfl rfl | apply q_M 7 rfl rfl (by kernel_rfl) (by decide +kernel) (by decide +kernel) rfl rfl rfl | apply q_M 8 rfl rfl (by kernel_rfl) (by decide +kernel) (by decide +kernel) rfl rfl rfl | apply q_M 9 rfl rfl (by kernel_rfl) (by decide +kernel) (by decide +kernel) rfl rfl rfl | apply q_M 10 rfl rfl (by kernel_rfl) (by decide +kernel) (by decide +kernel) rfl rfl rfl ); (exact q_H)) | (apply q_L 0 rfl rfl (by kernel_rfl) (by decide +kernel) (by decide +kernel) rfl rfl rfl; (exact qqbw0)) | (apply q_L 1 rfl rfl (by kernel_rfl) (by decide +kernel) (by decide +kernel) rfl rfl rfl; (exact qqbw0)) | (apply q_L 2 rfl rfl (by kernel_rfl) (by decide +kernel) (by decide +kernel) rfl rfl rfl; (exact qqbw0)) | (apply q_L 3 rfl rfl (by kernel_rfl) (by decide +kernel) (by decide +kernel) rfl rfl rfl; (exact qqbw0)) | (apply q_L 4 rfl rfl (by kernel_rfl) (by decide +kernel) (by decide +kernel) rfl rfl rfl; (exact qqbw0)) | (apply q_L 5 rfl rfl (by kernel_rfl) (by decide +kernel) (by decide +kernel) rfl rfl rfl; (exact qqbw0)) | (apply q_L 6 rfl rfl (by kernel_rfl) (by decide +kernel) (by decide +kernel) rfl rfl rfl; (exact qqbw0)) | refine zd (j := 0) (by decide +kernel) ?_ | refine zd (j := 1) (by decide +kernel) ?_ | refine zd (j := 2) (by decide +kernel) ?_ | refine zd (j := 3) (by decide +kernel) ?_ | refine zd (j := 4) (by decide +kernel) ?_ | refine zd (j := 5) (by decide +kernel) ?_ | refine zd (j := 6) (by decide +kernel) ?_ | refine zd (j := 7) (by decide +kernel) ?_ | refine zd (j := 8) (by decide +kernel) ?_ | refine zd (j := 9) (by decide +kernel) ?_ | refine zd (j := 10) (by decide +kernel) ?_ | refine zW za rfl rfl rfl rfl rfl rfl rfl ?_ | refine zJ za rfl rfl rfl rfl rfl rfl rfl rfl rfl rfl rfl rfl rfl ?_ | (apply zP rfl rfl rfl rfl; (first | exact q_2 | exact q_1 | first | exact q_5 | exact q_7 | exact q_19)) | refine zz (by decide +kernel) ?_ | first | refine zR rfl rfl rfl rfl rfl rfl hcl (fun _ => rfl) ?_ | refine zgq za rfl rfl rfl rfl rfl rfl rfl rfl rfl rfl (Src.row rfl) (zM zr v) (by decide) rfl (by omega) ?_ | refine zgp 3 902 (by omega) hput rfl rfl rfl rfl rfl rfl rfl rfl rfl (zal 33 s.2) rfl rfl ?_)
    repeat (first | refine q_Z ?_ | ((first | apply q_K rfl | apply q_X rfl); (exact q_H)) | refine q_U ?_)
    exact ⟨(k + 1, putT s l[k].p (v ++ [l[k]])), ⟨by dsimp only; omega, hR2⟩, by dsimp only; omega, q_S⟩
 ·have hkk : k = l.length := by omega
  subst hkk
  rw [List.take_length] at R
  have hlong := zjI s.1 s.2 x x0 x1 R.nd
  rw [zm7 R x] at hlong
  have hso := zhQ (l.filter (topB l x)) (Nat.le_trans (List.length_filter_le _ _) (by omega))
  repeat (first | refine q_Z ?_ | ((first | apply q_K rfl | apply q_X rfl); (exact q_H)) | refine q_U ?_ | (first | refine zgv 3 902 (by omega) hlong rfl rfl rfl rfl rfl rfl rfl rfl rfl ?_ | refine zbh rfl rfl rfl rfl rfl hso rfl ?_))
  exact zo AWk.refl rfl (h2 := [(5, rteB (longL l x))]) ⟨rfl, trivial⟩ ⟨rfl, rfl⟩
end Go.Proofs.YtmmdkjanmegjdaaGreat.Ab

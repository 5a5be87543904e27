/-
 Texts of a proof, one behind the other (part 5).
-/
import Derived.Test.YtoahnbmedcjpeaaGreatDoorMn3
set_option linter.unusedVariables false
set_option linter.unusedSimpArgs false
namespace Go.Proofs.YtoahnbmedcjpeaaGreatDoor.Ab
set_option maxRecDepth 100000
open Go.RowKit Go.Lib
section
variable {α : Type} {k el : Nat} {enc : α → List Dat}
def gR (el k : Nat) (enc : α → List Dat) (l : List α) : ABlk := .row el k l.length (l.flatMap enc)
def gA (enc : α → List Dat) (x : α) : AVal := .agg ((enc x).map AVal.d)
theorem zbO (hk : ∀ x, (enc x).length = k) : ∀ l : List α, (l.flatMap enc).length = l.length * k
 | [] => by simp
 | x :: l => by rw [List.flatMap_cons, List.length_append, hk, zbO hk l, List.length_cons, Nat.succ_mul, Nat.add_comm]
theorem zgD {β : Type} {A B C ys : List β} {o : Nat} (ho : o = A.length) (h : ys.length = B.length) : setW (A ++ (B ++ C)) o ys = A ++ (ys ++ C) := by
 subst ho
 simp [setW, h]
theorem zkM (hk : ∀ x, (enc x).length = k) {l : List α} {i : Nat} {x : α} (h : l[i]? = some x) : win (l.flatMap enc) (i * k) k = enc x := by
 obtain ⟨hi, rfl⟩ := List.getElem?_eq_some_iff.1 h
 rw [zj hk l i k hi (Nat.le_refl _), win, List.drop_zero, List.take_of_length_le (by rw [hk]; exact Nat.le_refl _)]
theorem zcz (hk : ∀ x, (enc x).length = k) (A B : List α) (x y : α) {o : Nat} (ho : o = A.length * k) : setW ((A ++ x :: B).flatMap enc) o (enc y) = (A ++ y :: B).flatMap enc := by
 rw [List.flatMap_append, List.flatMap_cons, List.flatMap_append, List.flatMap_cons]
 exact zgD (by rw [zbO hk]; exact ho) (by rw [hk, hk])
def KOk (K : AVal) : Prop := okV [(1000, 1000)] K = true ∧ renV [(1000, 1000)] K = K
theorem ok5 {K : AVal} (h : KOk K) (a b c : Nat) : [AVal.row 1000, natA a, natA b, natA c, K].all (okV [(1000, 1000)]) = true := by
 show (okV _ (AVal.row 1000) && (okV _ (natA a) && (okV _ (natA b) && (okV _ (natA c) && (okV _ K && true))))) = true
 rw [h.1]; rfl
theorem ren5 {K : AVal} (h : KOk K) (a b c : Nat) : [AVal.row 1000, natA a, natA b, natA c, K].map (renV [(1000, 1000)]) = [AVal.row 1000, natA a, natA b, natA c, K] := by
 show [AVal.row 1000, natA a, natA b, natA c, renV _ K] = _
 rw [h.2]
theorem ok4 {K : AVal} (h : KOk K) (a b : Nat) : [AVal.row 1000, natA a, natA b, K].all (okV [(1000, 1000)]) = true := by
 show (okV _ (AVal.row 1000) && (okV _ (natA a) && (okV _ (natA b) && (okV _ K && true)))) = true
 rw [h.1]; rfl
theorem ren4 {K : AVal} (h : KOk K) (a b : Nat) : [AVal.row 1000, natA a, natA b, K].map (renV [(1000, 1000)]) = [AVal.row 1000, natA a, natA b, K] := by
 show [AVal.row 1000, natA a, natA b, renV _ K] = _
 rw [h.2]
theorem zar {A B : List α} {x : α} {i : Nat} (h : i = A.length) : (A ++ x :: B)[i]? = some x := by subst h; simp
theorem zdM {A M B : List α} {x y : α} {i : Nat} (h : i = A.length + 1 + M.length) : (A ++ x :: (M ++ y :: B))[i]? = some y := by
 rw [show A ++ x :: (M ++ y :: B) = (A ++ x :: M) ++ y :: B by simp]
 exact zar (by rw [h]; simp; omega)
theorem zfv (hk : ∀ x, (enc x).length = k) (A M B : List α) (x y : α) {o p : Nat} (ho : o = A.length * k) (hp : p = (A.length + 1 + M.length) * k) : setW (setW ((A ++ x :: (M ++ y :: B)).flatMap enc) o (enc y)) p (enc x) = (A ++ y :: (M ++ x :: B)).flatMap enc := by
 rw [zcz hk A _ x y ho, show A ++ y :: (M ++ y :: B) = (A ++ y :: M) ++ y :: B by simp, zcz hk (A ++ y :: M) B y x (by rw [hp]; congr 1; simp; omega), List.append_assoc]; rfl
theorem ziy (hk : ∀ x, (enc x).length = k) (A M B : List α) (x y : α) {o p : Nat} (ho : o = A.length * k) (hp : p = (A.length + 1 + M.length) * k) : setW (setW ((A ++ x :: (M ++ y :: B)).flatMap enc) p (enc x)) o (enc y) = (A ++ y :: (M ++ x :: B)).flatMap enc := by
 rw [show A ++ x :: (M ++ y :: B) = (A ++ x :: M) ++ y :: B by simp, zcz hk (A ++ x :: M) B y x (by rw [hp]; congr 1; simp; omega), List.append_assoc]
 exact zcz hk A _ x y ho
theorem zfu (hk : ∀ x, (enc x).length = k) (A M B : List α) (x y : α) {o p : Nat} (ho : o = A.length * k) (hp : p = (A.length + 1 + M.length) * k) : setW (setW ((A ++ x :: (M ++ y :: B)).flatMap enc) p (enc x)) o (enc y) = (A ++ y :: (M ++ x :: B)).flatMap enc := ziy hk A M B x y ho hp
theorem zfw {l l' : List α} {cs : List Dat} (h1 : cs = l'.flatMap enc) (h2 : l.length = l'.length) : (ABlk.row el k l.length cs) = gR el k enc l' := by rw [h1, h2]; rfl
theorem zdu : ∀ xs : List Dat, datsA (xs.map AVal.d) = some xs
 | [] => rfl
 | x :: xs => by rw [List.map_cons, datsA, zdu xs]
theorem zbt (x : α) (j : Nat) : (gA enc x).has j = false := by
 rw [gA, AVal.has]
 induction enc x with
 | nil => rfl
 | cons y r ih => rw [List.map_cons, hasL, ih]; rfl
end
section
variable {P : Program} {nt : Nat} {Q : Post} {e : Env} {h : Heap} {ops : Array Oper} {o : Oper} {T : List Nat} {tab : TTab} {fuel i : Nat} {listed : Array Bool} {rest : List Oper} {α : Type} {k el : Nat} {enc : α → List Dat}
theorem zD {t id j : Nat} {x : Operand} {l : List α} {y : α} (TO : TabOk P tab) (hk : ∀ x, (enc x).length = k) (ho : o.op = .load t x) (hs : tsize tab t = some k) (ha : tagg tab t = some true) (hx : aev e x = some (.eptr id (j * k))) (hb : look h id = some (gR el k enc l)) (hT : T.contains id = false) (hi : l[j]? = some y) : AYield P T e h o (gA enc y) :=
 zdR TO ho hs ha hx hb hT (zkM hk hi) (by rw [hk]; exact Nat.beq_refl k) rfl
theorem zdT {t u : TypeId} {x y : Operand} {n : Nat} {yk : IntKind} (ho : o.op = .binOp .shr t x y u) (hx : aev e x = some (.d (.sc (.int .u64 (n : Int))))) (hy : aev e y = some (.d (.sc (.int yk 1)))) : AYield P T e h o (.d (.sc (.int .u64 ((n / 2 : Nat) : Int)))) := zE _ fun w F ι ac E =>
 ⟨.int .u64 ((n / 2 : Nat) : Int), zQ rfl, fun w' => by
  simp only [execOp, ho, (zL (zm E hx)).1, (zL (zm E hy)).1]
  have h1 : ((n : Int)) / 2 ^ (1 : Int).toNat = ((n / 2 : Nat) : Int) := by simp
  have h2 := shift_shr_any .u64 yk (n : Int) 1 (by decide)
  have h3 : min (1 : Int).toNat IntKind.u64.bits = 1 := by decide
  rw [h3] at h2
  have h4 : (n : Int) / 2 ^ 1 = ((n / 2 : Nat) : Int) := by omega
  rw [h4] at h2
  simp [eqGuard_shr, binOp_shr, h2]⟩
theorem zeJ {t t' : TypeId} {x : Operand} {n : Nat} {te te' : TE} (TO : TabOk P tab) (ho : o.op = .convert t t' x) (hx : aev e x = some (.d (.sc (.int .i64 (n : Int))))) (h1 : tlook tab t = some te) (h2 : tlook tab t' = some te') (h3 : te'.sh = .it .u64) (hn : n ≤ 9223372036854775807 := by omega) : AYield P T e h o (.d (.sc (.int .u64 (n : Int)))) :=
 zfg TO ho hx h1 h2 h3 (by rw [IntKind.wrap_u64]; omega)
theorem zfG {t t' : TypeId} {x : Operand} {n : Nat} {te te' : TE} (TO : TabOk P tab) (ho : o.op = .convert t t' x) (hx : aev e x = some (.d (.sc (.int .u64 (n : Int))))) (h1 : tlook tab t = some te) (h2 : tlook tab t' = some te') (h3 : te'.sh = .it .i64) (hn : n ≤ 9223372036854775807 := by omega) : AYield P T e h o (.d (.sc (.int .i64 (n : Int)))) :=
 zfg TO ho hx h1 h2 h3 (zaC ⟨by omega, by omega⟩)
theorem stopS {z : Bool} (k : Nat) {y r : Code} {a : Array Oper} {b : Bool} (H : AWp z P nt (.seq (.seq (.region k a b) y) r) Q e h) : AWp z P nt (.seq (.seq (.region k a b) y) r) Q e h := H
theorem zaG {t : TypeId} {x y : Operand} {id off n m : Nat} {cs : List Dat} {z : α} (TO : TabOk P tab) (hk : ∀ x, (enc x).length = k) (hi : ops[i]? = some o) (hw : awant ops e o = some true) (hdst : o.dst = none) (ho : o.op = .store t x y)
  (hx : aev e x = some (.eptr id off)) (hb : look h id = some (.row el m n cs)) (hy : aev e y = some (gA enc z)) (hs : tsize tab t = some k)
  (hT : T.contains id = true) (hle : off + k ≤ cs.length) (h0 : 0 < n)
  (HK : AAny P nt ops Q T fuel (listed.setIfInBounds i true) e ((id, .row el m n (setW cs off (enc z))) :: h)) : AAt P nt ops Q T fuel listed i e h :=
 zhL TO hi hw hdst ho hx hb hy rfl (zdu _) hs (by rw [List.length_map, hk]; exact Nat.beq_refl k) hT hle h0 HK
end
end Go.Proofs.YtoahnbmedcjpeaaGreatDoor.Ab

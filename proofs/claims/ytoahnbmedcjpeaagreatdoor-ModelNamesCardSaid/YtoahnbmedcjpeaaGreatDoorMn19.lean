/-
 Texts of a proof, one behind the other (part 20).
-/
import Derived.Shelf.SlGeneric
import Derived.Shelf.Strings.Search3
import Derived.Shelf.Strconv.Itoa3
import Derived.Shelf.Sort.Plain
import Derived.Shelf.Small.Strs
import Derived.Test.YtoahnbmedcjpeaaGreatDoorProg
import Derived.Test.YtoahnbmedcjpeaaGreatDoorMn1
import Derived.Test.YtoahnbmedcjpeaaGreatDoorMn2
import Derived.Test.YtoahnbmedcjpeaaGreatDoorMn3
import Derived.Test.YtoahnbmedcjpeaaGreatDoorMn9
set_option maxRecDepth 100000
set_option linter.unusedSimpArgs false
set_option linter.unusedVariables false
namespace Go.Proofs
open Go.Shelf
def Tryz.laysCont_ren : Go.Shelf.Ren := ⟨fun | 144 => 114 | 143 => 179 | 219 => 239 | 217 => 275 | 225 => 276 | 224 => 277 | 267 => 278 | 266 => 291 | 314 => 292 | n => n, fun | 9 => 9 | 4 => 4 | 3 => 3 | 5 => 5 | 46 => 47 | 146 => 322 | 51 => 35 | n => n, fun | 1 => 0 | n => n⟩
theorem Tryz.laysCont : Go.Proofs.Lays.n144 Tryz.prog Tryz.laysCont_ren := {
 mixed := by kernel_rfl
 f143 := Tryz.func179.trans (congrArg some (by kernel_rfl))
 f144 := Tryz.func114.trans (congrArg some (by kernel_rfl))
 f217 := Tryz.func275.trans (congrArg some (by kernel_rfl))
 f219 := Tryz.func239.trans (congrArg some (by kernel_rfl))
 f224 := Tryz.func277.trans (congrArg some (by kernel_rfl))
 f225 := Tryz.func276.trans (congrArg some (by kernel_rfl))
 f266 := Tryz.func291.trans (congrArg some (by kernel_rfl))
 f267 := Tryz.func278.trans (congrArg some (by kernel_rfl))
 f314 := Tryz.func292.trans (congrArg some (by kernel_rfl))
 t3 := Tryz.underlying3
 a3 := Tryz.isAgg3
 z3 := Tryz.sizeOf3
 v3 := Tryz.zeroValue3
 t4 := Tryz.underlying4
 a4 := Tryz.isAgg4
 z4 := Tryz.sizeOf4
 v4 := Tryz.zeroValue4
 t5 := Tryz.underlying5
 a5 := Tryz.isAgg5
 z5 := Tryz.sizeOf5
 v5 := Tryz.zeroValue5
 t9 := Tryz.underlying9
 a9 := Tryz.isAgg9
 z9 := Tryz.sizeOf9
 v9 := Tryz.zeroValue9
 t46 := Tryz.underlying47
 a46 := Tryz.isAgg47
 z46 := Tryz.sizeOf47
 v46 := Tryz.zeroValue47
 t51 := Tryz.underlying35
 a51 := Tryz.isAgg35
 z51 := Tryz.sizeOf35
 v51 := Tryz.zeroValue35
 t146 := Tryz.underlying322
 a146 := Tryz.isAgg322
 z146 := Tryz.sizeOf322
 v146 := Tryz.zeroValue322
 g1 := by kernel_rfl }
def Tryz.laysItoa_ren : Go.Shelf.Ren := ⟨fun | 171 => 29 | 243 => 142 | 246 => 212 | 283 => 251 | 284 => 252 | 285 => 253 | 286 => 254 | 129 => 229 | 317 => 279 | 318 => 280 | 319 => 281 | 320 => 282 | 337 => 293 | 338 => 294 | n => n, fun | 3 => 3 | 9 => 9 | 2 => 2 | 4 => 4 | 171 => 293 | 0 => 0 | 53 => 206 | 37 => 34 | 5 => 5 | 173 => 295 | 212 => 317 | 51 => 35 | 20 => 20 | 213 => 318 | 46 => 47 | 232 => 324 | 233 => 325 | n => n, fun | 17 => 1 | 18 => 2 | 19 => 3 | n => n⟩
theorem Tryz.laysItoa : Go.Proofs.LaysM.n171 Tryz.prog Tryz.laysItoa_ren := {
 mixed := by kernel_rfl
 f129 := Tryz.func229.trans (congrArg some (by kernel_rfl))
 f171 := Tryz.func29.trans (congrArg some (by kernel_rfl))
 f243 := Tryz.func142.trans (congrArg some (by kernel_rfl))
 f246 := Tryz.func212.trans (congrArg some (by kernel_rfl))
 f283 := Tryz.func251.trans (congrArg some (by kernel_rfl))
 f284 := Tryz.func252.trans (congrArg some (by kernel_rfl))
 f285 := Tryz.func253.trans (congrArg some (by kernel_rfl))
 f286 := Tryz.func254.trans (congrArg some (by kernel_rfl))
 f317 := Tryz.func279.trans (congrArg some (by kernel_rfl))
 f318 := Tryz.func280.trans (congrArg some (by kernel_rfl))
 f319 := Tryz.func281.trans (congrArg some (by kernel_rfl))
 f320 := Tryz.func282.trans (congrArg some (by kernel_rfl))
 f337 := Tryz.func293.trans (congrArg some (by kernel_rfl))
 f338 := Tryz.func294.trans (congrArg some (by kernel_rfl))
 t0 := Tryz.underlying0
 a0 := Tryz.isAgg0
 z0 := Tryz.sizeOf0
 v0 := Tryz.zeroValue0
 t2 := Tryz.underlying2
 a2 := Tryz.isAgg2
 z2 := Tryz.sizeOf2
 v2 := Tryz.zeroValue2
 t3 := Tryz.underlying3
 a3 := Tryz.isAgg3
 z3 := Tryz.sizeOf3
 v3 := Tryz.zeroValue3
 t4 := Tryz.underlying4
 a4 := Tryz.isAgg4
 z4 := Tryz.sizeOf4
 v4 := Tryz.zeroValue4
 t5 := Tryz.underlying5
 a5 := Tryz.isAgg5
 z5 := Tryz.sizeOf5
 v5 := Tryz.zeroValue5
 t9 := Tryz.underlying9
 a9 := Tryz.isAgg9
 z9 := Tryz.sizeOf9
 v9 := Tryz.zeroValue9
 t20 := Tryz.underlying20
 a20 := Tryz.isAgg20
 z20 := Tryz.sizeOf20
 v20 := Tryz.zeroValue20
 t37 := Tryz.underlying34
 a37 := Tryz.isAgg34
 z37 := Tryz.sizeOf34
 v37 := Tryz.zeroValue34
 t46 := Tryz.underlying47
 a46 := Tryz.isAgg47
 z46 := Tryz.sizeOf47
 v46 := Tryz.zeroValue47
 t51 := Tryz.underlying35
 a51 := Tryz.isAgg35
 z51 := Tryz.sizeOf35
 v51 := Tryz.zeroValue35
 t53 := Tryz.underlying206
 a53 := Tryz.isAgg206
 z53 := Tryz.sizeOf206
 v53 := Tryz.zeroValue206
 t171 := Tryz.underlying293
 a171 := Tryz.isAgg293
 z171 := Tryz.sizeOf293
 v171 := Tryz.zeroValue293
 t173 := Tryz.underlying295
 a173 := Tryz.isAgg295
 z173 := Tryz.sizeOf295
 v173 := Tryz.zeroValue295
 t212 := Tryz.underlying317
 a212 := Tryz.isAgg317
 z212 := Tryz.sizeOf317
 v212 := Tryz.zeroValue317
 t213 := Tryz.underlying318
 a213 := Tryz.isAgg318
 z213 := Tryz.sizeOf318
 t232 := Tryz.underlying324
 a232 := Tryz.isAgg324
 z232 := Tryz.sizeOf324
 v232 := Tryz.zeroValue324
 t233 := Tryz.underlying325
 a233 := Tryz.isAgg325
 z233 := Tryz.sizeOf325
 v233 := Tryz.zeroValue325
 g17 := by kernel_rfl
 g18 := by kernel_rfl
 g19 := by kernel_rfl
 i0 := by kernel_rfl
 i2 := by kernel_rfl
 i3 := by kernel_rfl
 i4 := by kernel_rfl
 i5 := by kernel_rfl
 i9 := by kernel_rfl
 i20 := by kernel_rfl
 i37 := by kernel_rfl
 i46 := by kernel_rfl
 i51 := by kernel_rfl
 i53 := by kernel_rfl
 i171 := by kernel_rfl
 i173 := by kernel_rfl
 i212 := by kernel_rfl
 i232 := by kernel_rfl
 i233 := by kernel_rfl
 m17 := by kernel_rfl
 m18 := by kernel_rfl
 m19 := by kernel_rfl }
def Tryz.laysSortS_ren : Go.Shelf.Ren := ⟨fun | 190 => 75 | 125 => 163 | 258 => 162 | 128 => 228 | 129 => 229 | 302 => 219 | 303 => 220 | 304 => 221 | 305 => 222 | 306 => 223 | 307 => 224 | 308 => 225 | 309 => 226 | 310 => 227 | 333 => 258 | 329 => 259 | 330 => 260 | 334 => 261 | 335 => 262 | 336 => 263 | 344 => 284 | n => n, fun | 31 => 22 | 9 => 9 | 3 => 3 | 46 => 47 | 0 => 0 | 51 => 35 | 53 => 206 | 4 => 4 | 183 => 266 | 182 => 265 | 131 => 270 | 5 => 5 | 218 => 299 | 222 => 303 | 228 => 319 | 229 => 320 | n => n, fun | n => n⟩
theorem Tryz.laysSortS : Go.Proofs.Lays.n190 Tryz.prog Tryz.laysSortS_ren := {
 mixed := by kernel_rfl
 f125 := Tryz.func163.trans (congrArg some (by kernel_rfl))
 f128 := Tryz.func228.trans (congrArg some (by kernel_rfl))
 f129 := Tryz.func229.trans (congrArg some (by kernel_rfl))
 f190 := Tryz.func75.trans (congrArg some (by kernel_rfl))
 f258 := Tryz.func162.trans (congrArg some (by kernel_rfl))
 f302 := Tryz.func219.trans (congrArg some (by kernel_rfl))
 f303 := Tryz.func220.trans (congrArg some (by kernel_rfl))
 f304 := Tryz.func221.trans (congrArg some (by kernel_rfl))
 f305 := Tryz.func222.trans (congrArg some (by kernel_rfl))
 f306 := Tryz.func223.trans (congrArg some (by kernel_rfl))
 f307 := Tryz.func224.trans (congrArg some (by kernel_rfl))
 f308 := Tryz.func225.trans (congrArg some (by kernel_rfl))
 f309 := Tryz.func226.trans (congrArg some (by kernel_rfl))
 f310 := Tryz.func227.trans (congrArg some (by kernel_rfl))
 f329 := Tryz.func259.trans (congrArg some (by kernel_rfl))
 f330 := Tryz.func260.trans (congrArg some (by kernel_rfl))
 f333 := Tryz.func258.trans (congrArg some (by kernel_rfl))
 f334 := Tryz.func261.trans (congrArg some (by kernel_rfl))
 f335 := Tryz.func262.trans (congrArg some (by kernel_rfl))
 f336 := Tryz.func263.trans (congrArg some (by kernel_rfl))
 f344 := Tryz.func284.trans (congrArg some (by kernel_rfl))
 t0 := Tryz.underlying0
 a0 := Tryz.isAgg0
 z0 := Tryz.sizeOf0
 v0 := Tryz.zeroValue0
 t3 := Tryz.underlying3
 a3 := Tryz.isAgg3
 z3 := Tryz.sizeOf3
 v3 := Tryz.zeroValue3
 t4 := Tryz.underlying4
 a4 := Tryz.isAgg4
 z4 := Tryz.sizeOf4
 v4 := Tryz.zeroValue4
 t5 := Tryz.underlying5
 a5 := Tryz.isAgg5
 z5 := Tryz.sizeOf5
 v5 := Tryz.zeroValue5
 t9 := Tryz.underlying9
 a9 := Tryz.isAgg9
 z9 := Tryz.sizeOf9
 v9 := Tryz.zeroValue9
 t31 := Tryz.underlying22
 a31 := Tryz.isAgg22
 z31 := Tryz.sizeOf22
 v31 := Tryz.zeroValue22
 t46 := Tryz.underlying47
 a46 := Tryz.isAgg47
 z46 := Tryz.sizeOf47
 v46 := Tryz.zeroValue47
 t51 := Tryz.underlying35
 a51 := Tryz.isAgg35
 z51 := Tryz.sizeOf35
 v51 := Tryz.zeroValue35
 t53 := Tryz.underlying206
 a53 := Tryz.isAgg206
 z53 := Tryz.sizeOf206
 v53 := Tryz.zeroValue206
 t131 := Tryz.underlying270
 a131 := Tryz.isAgg270
 z131 := Tryz.sizeOf270
 v131 := Tryz.zeroValue270
 t182 := Tryz.underlying265
 a182 := Tryz.isAgg265
 z182 := Tryz.sizeOf265
 v182 := Tryz.zeroValue265
 t183 := Tryz.underlying266
 a183 := Tryz.isAgg266
 z183 := Tryz.sizeOf266
 v183 := Tryz.zeroValue266
 t218 := Tryz.underlying299
 a218 := Tryz.isAgg299
 z218 := Tryz.sizeOf299
 v218 := Tryz.zeroValue299
 t222 := Tryz.underlying303
 a222 := Tryz.isAgg303
 z222 := Tryz.sizeOf303
 v222 := Tryz.zeroValue303
 t228 := Tryz.underlying319
 a228 := Tryz.isAgg319
 z228 := Tryz.sizeOf319
 v228 := Tryz.zeroValue319
 t229 := Tryz.underlying320
 a229 := Tryz.isAgg320
 z229 := Tryz.sizeOf320
 v229 := Tryz.zeroValue320 }
def Tryz.laysCmpS_ren : Go.Shelf.Ren := ⟨fun | 106 => 146 | 213 => 214 | 265 => 257 | n => n, fun | 9 => 9 | 3 => 3 | n => n, fun | n => n⟩
theorem Tryz.laysCmpS : Go.Proofs.Lays.n106 Tryz.prog Tryz.laysCmpS_ren := {
 mixed := by kernel_rfl
 f106 := Tryz.func146.trans (congrArg some (by kernel_rfl))
 f213 := Tryz.func214.trans (congrArg some (by kernel_rfl))
 f265 := Tryz.func257.trans (congrArg some (by kernel_rfl))
 t3 := Tryz.underlying3
 a3 := Tryz.isAgg3
 z3 := Tryz.sizeOf3
 v3 := Tryz.zeroValue3
 t9 := Tryz.underlying9
 a9 := Tryz.isAgg9
 z9 := Tryz.sizeOf9
 v9 := Tryz.zeroValue9 }
end Go.Proofs

namespace Go.Proofs.YtoahnbmedcjpeaaGreatDoor.Ab
open Go.RowKit Go.Lib Go.Shelf
theorem ze3 (s t : List UInt8) (hs : s.length < 4294967281) : ACall Tryz.prog 114 [strA s, strA t] [] (Just (boolA (Lib.contains s t))) := zdh (by kernel_rfl) rfl rfl rfl fun w hg => by
 obtain ⟨m, t0, fr, h0⟩ := hg.max
 refine (Any.strings_Contains Tryz.laysCont ⟨⟨s⟩⟩ ⟨⟨t⟩⟩ m w hs (by
  show w.cell? ⟨0, 0, none⟩ = _
  unfold World.cell?
  rw [show w.heap[0]? = _ from h0]
  rfl)).mono ?_
 rintro e w' ⟨rfl, rfl⟩
 exact ⟨rfl, Below.refl _ _⟩
theorem zg7 (n : Int) (h0 : -9223372036854775808 ≤ n) (h1 : n ≤ 9223372036854775807) : ACall Tryz.prog 29 [intA n] [] (Just (strA (Lib.itoa n))) := zdh (by kernel_rfl) rfl rfl rfl fun w hg => by
 obtain ⟨t0, fr, ht⟩ := hg.tab
 refine (Any.strconv_Itoa Tryz.laysItoa n h0 h1 w ?_).mono ?_
 ·unfold Lib.TabIs World.var?
  rw [show Tryz.prog.globalNamed "internal/strconv.uint64pow10" = some 1 by kernel_rfl]
  simp only [Option.bind_some]
  rw [show w.heap[1]? = _ from ht]
  rfl
 ·rintro e w' ⟨rfl, k, os, rfl⟩
  exact ⟨rfl, zda w k os⟩
end Go.Proofs.YtoahnbmedcjpeaaGreatDoor.Ab

namespace Go.Proofs.YtoahnbmedcjpeaaGreatDoor.Ab
open Go.RowKit
section
variable {P : Program} {nt : Nat} {Q : Post} {e : Env} {h : Heap} {ops : Array Oper} {o : Oper} {rest : List Oper} {T : List Nat} {tab : TTab}
variable {κ ν : Type} [DecidableEq κ] {ek : κ → Value} {ok : κ → Prop} {ka : κ → AVal} {xa : ν → AVal}
theorem zjn {t K E id : Nat} {x y z : Operand} {k : κ} {l : List (κ × ν)} {q : ν} (law : KeyLaw P K ek ok) (hka : ∀ k, valA (ka k) = some (ek k)) (hkv : ∀ k w F ι, VRel w F ι (ka k) (ek k)) (hk : ok k) (hl : ∀ p ∈ l, ok p.1) (hn : (l.map (·.1)).Nodup)
  (TO : TabOk P tab) (hw : awant ops e o = some true) (hdst : o.dst = none) (ho : o.op = .mapUpdate t x y z) (ht : tmap tab t = some (K, E)) (hx : aev e x = some (.mp id)) (hb : look h id = some (.map (ents ka xa l))) (hy : aev e y = some (ka k)) (hq : aev e z = some (xa q))
  (HK : AOps P nt ops Q rest e ((id, .map (ents ka xa (Go.Proofs.YtoahnbmedcjpeaaGreatDoor.aput l k q))) :: h)) : AOps P nt ops Q (o :: rest) e h := by
 obtain ⟨te, h1, h2⟩ := zcl ht
 exact zax (T := [id]) hw (zeL TO law hka hkv ho hdst h1 h2 hx hb hy hq hk hl hn rfl (by simp)) fun e' h' ⟨h3, h4⟩ => by subst h3 h4; exact HK
end
end Go.Proofs.YtoahnbmedcjpeaaGreatDoor.Ab

namespace Go.Proofs.YtoahnbmedcjpeaaGreatDoor.Ab
open Go.RowKit
theorem intKey {P : Program} {K : TypeId} {q : IntKind} (hd : P.underlying K = some (.int q)) : KeyLaw P K (fun a : Int => .int q a) (fun _ => True) where
 check := fun b k w _ => by
  show (Instr.checkKey b (9999 + 1) K (.int q k)).run P w = _
  unfold Instr.checkKey
  simp [run_underlying hd]
 bits := fun a _ => by simp [Instr.sameBits]
 find := fun k es l _ _ he w => by
  have key : ∀ (es : List MapEntry) (l : List (Int × Value)) (i : Nat), es.map (fun e => (e.key, e.val)) = l.map (fun p => (Value.int q p.1, p.2)) → Instr.findNow (.int q) (.int q k) es i = some ((mget l k).map fun x => (i + x.1, x.2)) := by
   intro es
   induction es with
   | nil =>
    intro l i h
    cases l with
    | nil => rfl
    | cons p r => simp at h
   | cons e es ih =>
    intro l i h
    cases l with
    | nil => simp at h
    | cons p r =>
     obtain ⟨k', v⟩ := p
     simp only [List.map_cons, List.cons.injEq, Prod.mk.injEq] at h
     obtain ⟨⟨h1, h2⟩, h3⟩ := h
     unfold Instr.findNow mget
     rw [h1]
     by_cases e' : k = k'
     ·subst e'; simp [Instr.sameNow, h2]
     ·have : (k == k') = false := by simpa using e'
      simp only [Instr.sameNow, if_true, this, if_neg e']
      rw [ih r (i + 1) h3]
      cases mget r k with
      | none => rfl
      | some x => simp; omega
  unfold Instr.findKey
  rw [Sem.run_bind, run_underlying hd]
  simp only [Result.andThen_ok]
  rw [key es l 0 he]
  cases mget l k with
  | none => rfl
  | some x => simp
section
variable {P : Program} {nt : Nat} {Q : Post} {e : Env} {h : Heap} {o : Oper} {ops : Array Oper} {rest : List Oper} {T : List Nat} {tab : TTab} {κ ν : Type} [DecidableEq κ] {ek : κ → Value} {ok : κ → Prop} {ka : κ → AVal} {xa : ν → AVal}
end
end Go.Proofs.YtoahnbmedcjpeaaGreatDoor.Ab

namespace Go.Proofs.YtoahnbmedcjpeaaGreatDoor.Ab
set_option linter.unusedSectionVars false
open Go.RowKit Go.ChangeMaps
section
variable {P : Program} {nt : Nat} {Q : Post} {e : Env} {h : Heap} {ops : Array Oper} {o : Oper} {rest : List Oper} {T : List Nat} {tab : TTab} {fuel i : Nat} {listed : Array Bool}
theorem HRel.closed {Pm F : Nat → Prop} {w0 w : World} {pin ι : Nat → Option Value} {mid r clk : Nat} {bs : List Nat} {es : List (AVal × AVal)} (H : HRel Pm F w0 pin ι h w) (hb : look h mid = some (.mapx r bs clk es)) : HRel Pm F w0 pin ι ((mid, .map es) :: h) w := by
 obtain ⟨v, hv, E, rfl, hC, hl, hr, h1, h2, h3⟩ := H.blk mid _ hb
 have hW : Wrote w (.map (some r)) w := ⟨rfl, rfl, rfl, Nat.le_refl _, fun _ _ _ => rfl⟩
 refine H.wrote hW hv ⟨r, E, clk, rfl, hC, hl, hr, fun i j m m' hij hi hj => ?_, fun i m hi => ?_⟩
 ·rw [← h1, List.pairwise_map, List.pairwise_iff_getElem] at h2
  have hi' := (Array.getElem?_eq_some_iff.1 hi)
  have hj' := (Array.getElem?_eq_some_iff.1 hj)
  have := h2 i j (by simpa using hi'.1) (by simpa using hj'.1) hij
  rw [Array.getElem_toList, Array.getElem_toList, hi'.2, hj'.2] at this
  exact this
 ·refine h3 m.born ?_
  rw [← h1]
  exact List.mem_map.2 ⟨m, Array.mem_toList_iff.2 (Array.mem_of_getElem? hi), rfl⟩
variable {κ ν : Type} [DecidableEq κ] {ek : κ → Value} {ok : κ → Prop} {ka : κ → AVal} {xa : ν → AVal}
theorem zjl {t K E id : Nat} {x y : Operand} {k : κ} {l : List (κ × ν)} {zv : Value} (c0 : AVal) (hc0 : ∀ w F ι, VRel w F ι c0 zv) (law : KeyLaw P K ek ok) (hka : ∀ k, valA (ka k) = some (ek k)) (hz : ∀ W, (zeroValue E).run P W = .ok zv W) (hk : ok k) (hl : ∀ p ∈ l, ok p.1) (hn : (l.map (·.1)).Nodup) (hg : aget l k = none)
  (TO : TabOk P tab) (ho : o.op = .lookup t x y false) (ht : tmap tab t = some (K, E)) (hx : aev e x = some (.mp id)) (hb : look h id = some (.map (ents ka xa l))) (hT : T.contains id = false) (hy : aev e y = some (ka k)) : AYield P T e h o c0 := fun Pm F w0 pin ι a w H Er => by
 obtain ⟨te, ht, hs⟩ := zcl ht
 obtain ⟨v, hv, hB⟩ := H.blk id _ hb
 obtain ⟨B, m, rfl, hm, hbes⟩ := zeV hka hn hB
 obtain ⟨d, hd, _, hh⟩ := (TO t te ht).und
 rw [hs] at hh
 cases hh
 have hxv := zm Er hx
 have hkv := zaa (zm Er hy) (hka k)
 have h1 := (hbes.aget k).2 hg
 have hxe := zgT hxv hv
 refine ⟨zv, hc0 _ _ _, fun w' hw' => ?_⟩
 have hm' := zcZ hm (zcc H hw' hv rfl hT)
 have := hm'.lookup law hd hz hk (fun p hp => by
  have : p.1 ∈ m.map (·.1) := List.mem_map.2 ⟨p, hp, rfl⟩
  rw [hbes.keys] at this
  obtain ⟨q, hq, he⟩ := List.mem_map.1 this
  rw [← he]; exact hl q hq)
 rw [h1] at this
 simp only [execOp, ho, hxe, hkv]
 simp only [Sem.run_bind, this]
 rfl
end
end Go.Proofs.YtoahnbmedcjpeaaGreatDoor.Ab

namespace Go.Proofs.YtoahnbmedcjpeaaGreatDoor.Ab
open Go.RowKit
def lendW (h : Heap) : AVal → AVal
 | .agg cs => .agg (cs.map (lendV h))
 | c => lendV h c
theorem zf1 {Pm F : Nat → Prop} {w0 w : World} {pin ι : Nat → Option Value} {h : Heap} (H : HRel Pm F w0 pin ι h w) {c : AVal} {u : Value} (hc : VRel w F ι c u) : VRel w (fun _ => False) (fun _ => none) (lendW h c) u := by
 cases c with
 | agg cs =>
  cases hc with
  | agg _ C hl hh =>
   refine .agg _ C (by rw [hl, List.length_map]) fun i c u h1 h2 => ?_
   rw [List.getElem?_map] at h1
   cases h3 : cs[i]? with
   | none => rw [h3] at h1; cases h1
   | some c0 => rw [h3] at h1; cases h1; exact zc1 H (hh i c0 u h3 h2)
 | _ => exact zc1 H hc
theorem ze8 {Pm F : Nat → Prop} {w0 w : World} {pin ι : Nat → Option Value} {h : Heap} (H : HRel Pm F w0 pin ι h w) {cs : List AVal} {us : Array Value} (A : ArgsRel w F ι cs us) : ArgsRel w (fun _ => False) (fun _ => none) (cs.map (lendW h)) us :=
 ⟨by rw [List.length_map]; exact A.1, fun i c u h1 h2 => by
  rw [List.getElem?_map] at h1
  cases hc : cs[i]? with
  | none => rw [hc] at h1; cases h1
  | some c' => rw [hc] at h1; cases h1; exact zf1 H (A.2 i c' u hc h2)⟩
section
variable {P : Program} {nt : Nat} {Q : Post} {e : Env} {h : Heap} {ops : Array Oper} {o : Oper} {rest : List Oper} {T : List Nat} {tab : TTab}
end
end Go.Proofs.YtoahnbmedcjpeaaGreatDoor.Ab

namespace Go.Proofs.YtoahnbmedcjpeaaGreatDoor.Ab
open Go.RowKit

open Classical in
noncomputable def invN (ν : List (Nat × Nat)) (i : Nat) : Option Nat := if h : ∃ p, look ν p = some i then some (Classical.choose h) else none
end Go.Proofs.YtoahnbmedcjpeaaGreatDoor.Ab

namespace Go.Proofs.YtoahnbmedcjpeaaGreatDoor.Ab
open Go.RowKit

section
variable {P : Program} {nt : Nat} {T : List Nat} {Q0 : Post} {ops : Array Oper} {rest : List Oper} {e : Env} {h : Heap} {o : Oper} {tab : TTab}
end
end Go.Proofs.YtoahnbmedcjpeaaGreatDoor.Ab

namespace Go.Proofs.YtoahnbmedcjpeaaGreatDoor.Ab
open Go.RowKit

def raw1 (ρ : Nat → Value) : AVal → AVal
 | .row id => .d (.sc (ρ id))
 | .d x => .d x
 | _ => .top
def rawB (ρ : Nat → Value) (id : Nat) : ABlk → ABlk
 | .row e k n cs => .rowx (ρ id) e k n cs
 | b => b
def rawH (ρ : Nat → Value) : Heap → Heap
 | [] => []
 | (id, b) :: r => (id, rawB ρ id b) :: rawH ρ r
section
variable {P : Program} {Pm F : Nat → Prop} {w0 w : World} {pin ι : Nat → Option Value} {h : Heap}
end

inductive RawD (h : Heap) : Dat → Dat → Prop where
 | same (x : Dat) : RawD h x x
 | row (hv : Value) (id : Nat) (e : TypeId) (k n : Nat) (cs : List Dat) (hb : look h id = some (.rowx hv e k n cs)) : RawD h (.sc hv) (.sl cs n)
def RawDs (h : Heap) (cs cs' : List Dat) : Prop := cs'.length = cs.length ∧ ∀ (i : Nat) (c c' : Dat), cs[i]? = some c → cs'[i]? = some c' → RawD h c c'
theorem RawDs.nil (h : Heap) : RawDs h [] [] := ⟨rfl, fun i c c' h => by simp at h⟩
theorem RawDs.cons {h : Heap} {c c' : Dat} {cs cs' : List Dat} (h1 : RawD h c c') (h2 : RawDs h cs cs') : RawDs h (c :: cs) (c' :: cs') :=
 ⟨by simp [h2.1], fun i x y hx hy => by
  cases i with
  | zero => simp at hx hy; subst hx hy; exact h1
  | succ i => exact h2.2 i x y (by simpa using hx) (by simpa using hy)⟩
theorem RawDs.app {h : Heap} {cs cs' ds ds' : List Dat} (h1 : RawDs h cs cs') (h2 : RawDs h ds ds') : RawDs h (cs ++ ds) (cs' ++ ds') :=
 ⟨by simp [h1.1, h2.1], fun i x y hx hy => by
  rw [List.getElem?_append] at hx hy
  rw [h1.1] at hy
  split at hx
  ·rename_i hl; rw [if_pos hl] at hy; exact h1.2 _ _ _ hx hy
  ·rename_i hl; rw [if_neg hl] at hy; exact h2.2 _ _ _ hx hy⟩
inductive All2 {α β : Type} (R : α → β → Prop) : List α → List β → Prop where
 | nil : All2 R [] []
 | cons {a : α} {b : β} {l : List α} {m : List β} (h1 : R a b) (h2 : All2 R l m) : All2 R (a :: l) (b :: m)
inductive RawV (h : Heap) : AVal → AVal → Prop where
 | same (c : AVal) : RawV h c c
 | d (x y : Dat) (hd : RawD h x y) : RawV h (.d x) (.d y)
 | agg (cs cs' : List Dat) (hd : RawDs h cs cs') : RawV h (.agg (cs.map .d)) (.agg (cs'.map .d))
 | row (id e k n : Nat) (cs cs' : List Dat) (hb : look h id = some (.row e k n cs)) (hd : RawDs h cs cs') : RawV h (.row id) (.d (.sl cs' n))
inductive RawL (h : Heap) : List AVal → List AVal → Prop where
 | nil : RawL h [] []
 | cons {c c' : AVal} {cs cs' : List AVal} (h1 : RawV h c c') (h2 : RawL h cs cs') : RawL h (c :: cs) (c' :: cs')
section
variable {Pm F : Nat → Prop} {w0 w : World} {pin ι : Nat → Option Value} {h : Heap}
end
section
variable {P : Program} {nt : Nat} {Q : Post} {e : Env} {h : Heap} {ops : Array Oper} {o : Oper} {rest : List Oper} {T : List Nat} {tab : TTab} {fuel i : Nat} {listed : Array Bool}
def plainD : Dat → Bool
 | .sc _ => true
 | _ => false
def plainB : ABlk → Bool
 | .row _ _ _ cs => cs.all plainD
 | .rowx _ _ _ _ cs => cs.all plainD
 | _ => false
def plainV1 : AVal → Bool
 | .row _ => true
 | .d x => plainD x
 | _ => false
def plainV : AVal → Bool
 | .tup cs => cs.all plainV1
 | .agg cs => cs.all plainV1
 | c => plainV1 c
theorem DRel.plain {w : World} {Fr Fr' : Nat → Prop} {x : Dat} {u : Value} (hp : plainD x = true) (h : DRel w Fr x u) : DRel w Fr' x u := by
 cases h with
 | sc _ h => exact .sc _ h
 | _ => cases hp
theorem VRel.plain1 {w : World} {F F' : Nat → Prop} {ι : Nat → Option Value} {c : AVal} {u : Value} (hp : plainV1 c = true) (h : VRel w F ι c u) : VRel w F' ι c u := by
 cases h with
 | row id u h1 h2 => exact .row id u h1 h2
 | d x u h => exact .d x u (DRel.plain hp h)
 | _ => cases hp
theorem VRel.plain {w : World} {F F' : Nat → Prop} {ι : Nat → Option Value} {c : AVal} {u : Value} (hp : plainV c = true) (h : VRel w F ι c u) : VRel w F' ι c u := by
 cases h with
 | tup cs C hl hh => exact .tup cs C hl fun i c u h1 h2 => (hh i c u h1 h2).plain1 (List.all_eq_true.1 hp c (List.mem_of_getElem? h1))
 | agg cs C hl hh => exact .agg cs C hl fun i c u h1 h2 => (hh i c u h1 h2).plain1 (List.all_eq_true.1 hp c (List.mem_of_getElem? h1))
 | row id u h1 h2 => exact .row id u h1 h2
 | d x u h => exact .d x u (DRel.plain hp h)
 | _ => cases hp
theorem RowR.plain {w : World} {F F' : Nat → Prop} {ι ι' : Nat → Option Value} {e k n : Nat} {cs : List Dat} {v : Value} (hp : cs.all plainD = true) (h : RowR w F ι e k n cs v) : RowR w F' ι' e k n cs v := by
 obtain ⟨xs, h1, h2, h3⟩ := h
 exact ⟨xs, h1, h2, fun i c u a b => DRel.plain (List.all_eq_true.1 hp c (List.mem_of_getElem? a)) (h3 i c u a b)⟩
theorem BRel.plain {w : World} {F F' : Nat → Prop} {ι ι' : Nat → Option Value} {b : ABlk} {v : Value} (hp : plainB b = true) (h : BRel w F ι b v) : BRel w F' ι' b v := by
 cases b with
 | row e k n cs => exact RowR.plain hp h
 | rowx hv e k n cs => exact ⟨h.1, h.2.plain hp⟩
 | _ => cases hp
end
end Go.Proofs.YtoahnbmedcjpeaaGreatDoor.Ab

namespace Go.Proofs.YtoahnbmedcjpeaaGreatDoor.Ab
open Go.RowKit
section
variable {P : Program} {nt : Nat} {Q : Post} {e : Env} {h : Heap} {ops : Array Oper} {o : Oper} {rest : List Oper} {T : List Nat} {tab : TTab} {fuel i : Nat} {listed : Array Bool}
end
end Go.Proofs.YtoahnbmedcjpeaaGreatDoor.Ab

namespace Go.Proofs.YtoahnbmedcjpeaaGreatDoor.Ab
set_option linter.unusedSectionVars false
open Go.RowKit Go.ChangeMaps
section
variable {P : Program} {nt : Nat} {Q : Post} {e : Env} {h : Heap} {ops : Array Oper} {o : Oper} {rest : List Oper} {T : List Nat} {tab : TTab} {fuel i : Nat} {listed : Array Bool}
variable {κ ν : Type} [DecidableEq κ] {ek : κ → Value} {ok : κ → Prop} {ka : κ → AVal} {xa : ν → AVal}
end
end Go.Proofs.YtoahnbmedcjpeaaGreatDoor.Ab

namespace Go.Proofs.YtoahnbmedcjpeaaGreatDoor.Ab
open Go.RowKit
def isX : ABlk → Bool
 | .rowx _ _ _ _ cs => cs.all plainD
 | _ => false
section
variable {Pm F : Nat → Prop} {w0 w w' : World} {pin ι ι' : Nat → Option Value} {h : Heap}
end
section
variable {P : Program} {nt : Nat} {Q : Post} {e e1 : Env} {h h1 G G2 : Heap} {ops : Array Oper} {o : Oper} {rest : List Oper} {T : List Nat} {tab : TTab} {fuel i : Nat} {listed : Array Bool}
end
section
variable {κ ν : Type} [DecidableEq κ] {ok : κ → Prop} {ka : κ → AVal} {ek : κ → Value} {xa : ν → AVal}
variable {P : Program} {nt : Nat} {Q : Post} {e : Env} {h : Heap} {ops : Array Oper} {o : Oper} {T : List Nat} {tab : TTab} {fuel i : Nat} {listed : Array Bool}
end
theorem RawDs.refl (h : Heap) (cs : List Dat) : RawDs h cs cs := ⟨rfl, fun i c c' h1 h2 => by rw [h1] at h2; cases h2; exact .same _⟩
section
variable {P : Program} {nt : Nat} {Q : Post} {e : Env} {h : Heap} {ops : Array Oper} {o : Oper} {rest : List Oper}
end
end Go.Proofs.YtoahnbmedcjpeaaGreatDoor.Ab

namespace Go.Proofs.YtoahnbmedcjpeaaGreatDoor.Ab
open Go.RowKit
end Go.Proofs.YtoahnbmedcjpeaaGreatDoor.Ab

namespace Go.Proofs.YtoahnbmedcjpeaaGreatDoor
open Go.RowKit Go.Lib
def cntL (l : List (List UInt8)) : List (List UInt8 × Nat) := l.foldl (fun m x => aput m x ((aget m x).getD 0 + 1)) []
theorem zcr (l : List (List UInt8)) (x : List UInt8) : cntL (l ++ [x]) = aput (cntL l) x ((aget (cntL l) x).getD 0 + 1) := by
 unfold cntL; rw [List.foldl_append]; rfl
theorem zb0 {α : Type} {p : List α → Prop} (h0 : p []) (hs : ∀ l x, p l → p (l ++ [x])) (l : List α) : p l := by
 rw [← List.reverse_reverse l]
 induction l.reverse with
 | nil => exact h0
 | cons x r ih => rw [List.reverse_cons]; exact hs _ _ ih
theorem zbb (l : List (List UInt8)) : ((cntL l).map (·.1)).Nodup := by
 refine zb0 (p := fun l => ((cntL l).map (·.1)).Nodup) (by simp [cntL]) (fun l x ih => ?_) l
 rw [zcr]; exact zaV ih
theorem zaF (l : List (List UInt8)) (s : List UInt8) : (aget (cntL l) s).getD 0 = l.count s := by
 refine zb0 (p := fun l => (aget (cntL l) s).getD 0 = l.count s) (by simp [cntL, aget, mget]) (fun l x ih => ?_) l
 rw [zcr, zdv (zbb l), List.count_append]
 by_cases h : s = x
 ·subst h; rw [if_pos rfl, ih]; simp
 ·rw [if_neg h, ih, List.count_singleton, if_neg (by simpa using fun e => h (Eq.symm e))]
  omega
def noneB (l : List (List UInt8)) (s : List UInt8) : Bool := decide (s = []) || decide (s ∈ l)
theorem ziI (l : List (List UInt8)) (s : List UInt8) : decide ((((aget (cntL l) s).getD 0 : Nat) : Int) > 0) = decide (s ∈ l) := by
 rw [zaF, decide_eq_decide, ← List.count_pos_iff]
 omega
namespace Ab
theorem bbeq (a b : List UInt8) : ((⟨⟨a⟩⟩ : ByteArray) == ⟨⟨b⟩⟩) = decide (a = b) := by
 have h : ((⟨⟨a⟩⟩ : ByteArray) == ⟨⟨b⟩⟩) = ((Array.mk a) == (Array.mk b)) := rfl
 rw [h, Bool.eq_iff_iff]
 simp
theorem strKey {P : Program} {K : TypeId} (hd : P.underlying K = some .string) : KeyLaw P K (fun a : List UInt8 => .string ⟨⟨a⟩⟩) (fun _ => True) where
 check := fun b k w _ => by
  show (Instr.checkKey b (9999 + 1) K (.string ⟨⟨k⟩⟩)).run P w = _
  unfold Instr.checkKey
  simp [run_underlying hd]
 bits := fun a _ => by simp [Instr.sameBits, bbeq]
 find := fun k es l _ _ he w => by
  have key : ∀ (es : List MapEntry) (l : List (List UInt8 × Value)) (i : Nat), es.map (fun e => (e.key, e.val)) = l.map (fun p => (Value.string ⟨⟨p.1⟩⟩, p.2)) → Instr.findNow .string (.string ⟨⟨k⟩⟩) es i = some ((mget l k).map fun x => (i + x.1, x.2)) := by
   intro es
   induction es with
   | nil =>
    intro l i h
    cases l with
    | nil => rfl
    | cons p r => simp at h
   | cons e es ih =>
    intro l i h
    cases l with
    | nil => simp at h
    | cons p r =>
     obtain ⟨k', v⟩ := p
     simp only [List.map_cons, List.cons.injEq, Prod.mk.injEq] at h
     obtain ⟨⟨h1, h2⟩, h3⟩ := h
     unfold Instr.findNow mget
     rw [h1]
     by_cases e' : k = k'
     ·subst e'; simp [Instr.sameNow, h2, bbeq]
     ·have : ((⟨⟨k⟩⟩ : ByteArray) == ⟨⟨k'⟩⟩) = false := by rw [bbeq]; exact decide_eq_false e'
      simp only [Instr.sameNow, this, if_neg e']
      rw [ih r (i + 1) h3]
      cases mget r k with
      | none => rfl
      | some x => simp; omega
  unfold Instr.findKey
  rw [Sem.run_bind, run_underlying hd]
  simp only [Result.andThen_ok]
  rw [key es l 0 he]
  cases mget l k with
  | none => rfl
  | some x => simp
abbrev natA' (n : Nat) : AVal := .d (.sc (.int .i64 (n : Int)))
def cntB (l : List (List UInt8)) : ABlk := .map (ents (fun s : List UInt8 => strA s) (fun n : Nat => natA' n) (cntL l))
theorem zV (i : Nat) (l : List (List UInt8)) : killB i (cntB l) = cntB l := by
 show ABlk.map _ = ABlk.map _
 congr 1
 unfold ents
 rw [List.map_map]
 rfl
section
variable {P : Program} {nt : Nat} {Q : Post} {e : Env} {h : Heap} {ops : Array Oper} {o : Oper} {rest : List Oper} {T : List Nat} {tab : TTab}
theorem zd4 (n : Int) (w : World) (F : Nat → Prop) (ι : Nat → Option Value) : VRel w F ι (.d (.sc (.int .i64 n))) (.int .i64 n) := .d _ _ (.sc _ rfl)
theorem zbg {t K E id : Nat} {x y : Operand} {s : List UInt8} {l : List (List UInt8)} (TO : TabOk P tab) (ho : o.op = .lookup t x y false) (ht : tmap tab t = some (K, E)) (hK : tstr tab K = true) (hz : ∀ W, (zeroValue E).run P W = .ok (.int .i64 0) W) (hx : aev e x = some (.mp id)) (hb : look h id = some (cntB l)) (hT : T.contains id = false) (hy : aev e y = some (strA s)) :
  AYield P T e h o (natA' ((aget (cntL l) s).getD 0)) := by
 cases hg : aget (cntL l) s with
 | none => exact zjl (zv := .int .i64 0) (natA' 0) (fun w F ι => zd4 0 w F ι) (strKey (zaQ TO hK)) (fun _ => rfl) hz trivial (fun _ _ => trivial) (zbb l) hg TO ho ht hx hb hT hy
 | some z => exact zjk (zv := .int .i64 0) (strKey (zaQ TO hK)) (fun _ => rfl) hz trivial (fun _ _ => trivial) (zbb l) hg TO ho ht hx hb hT hy
theorem zby {t K E id : Nat} {x y z : Operand} {s : List UInt8} {l : List (List UInt8)} (TO : TabOk P tab) (hw : awant ops e o = some true) (hdst : o.dst = none) (ho : o.op = .mapUpdate t x y z) (ht : tmap tab t = some (K, E)) (hK : tstr tab K = true) (hx : aev e x = some (.mp id)) (hb : look h id = some (cntB l)) (hy : aev e y = some (strA s)) (hq : aev e z = some (natA' ((aget (cntL l) s).getD 0 + 1)))
  (HK : AOps P nt ops Q rest e ((id, cntB (l ++ [s])) :: h)) : AOps P nt ops Q (o :: rest) e h := by
 unfold cntB at HK
 rw [zcr] at HK
 exact zjn (strKey (zaQ TO hK)) (fun _ => rfl) (fun k w F ι => .d _ _ (.sc _ rfl)) trivial (fun _ _ => trivial) (zbb l) TO hw hdst ho ht hx hb hy hq HK
end
theorem zC : ∀ W, (zeroValue 3).run Tryz.prog W = .ok (.int .i64 0) W := fun W => by kernel_rfl
theorem ACall.reidM {P : Program} {f : FuncId} {args : List AVal} {h : Heap} {p : Nat} (id : Nat) {es : List (AVal × AVal)} (hes : ∀ q ∈ es, (∀ j, q.1.has j = false) ∧ ∀ j, q.2.has j = false) (H : ACall P f args h (fun c h' => c = .mp p ∧ h' = [(p, .map es)])) (hid : Nat.blt id 1000 = true) : ACall P f args h (fun c h' => c = .mp id ∧ h' = [(id, .map es)]) :=
 ⟨H.1, fun Pm F w0 pin ι us w a b => (H.2 Pm F w0 pin ι us w a b).mono fun x w' ⟨u, c, h', ι, h1, ⟨e1, e2⟩, H, hv⟩ => by
  subst e1 e2
  have hid' : id < 1000 := by simp [Nat.blt] at hid; omega
  have one : ∀ i b, look [(p, ABlk.map es)] i = some b → i = p ∧ b = .map es := fun i b hb => by
   by_cases h2 : p = i
   ·subst h2; rw [zb] at hb; cases hb; exact ⟨rfl, rfl⟩
   ·rw [zd _ _ h2] at hb; cases hb
  have hι : ∀ i v, (if i = id then ι p else none) = some v → i = id ∧ ι p = some v := fun i v hi => by
   split at hi
   ·rename_i h2; exact ⟨h2, hi⟩
   ·cases hi
  obtain ⟨v, hvp, hB⟩ := H.blk p _ (zb _ _ _)
  have hex : Ext w' F ι w' (fun i => if i = id then ι p else none) := ⟨fun _ _ _ => rfl, fun r _ hf => ⟨hf.1, fun i v hi => hf.2 p v (hι i v hi).2⟩⟩
  refine ⟨u, .mp id, _, fun i => if i = id then ι p else none, h1, ⟨rfl, rfl⟩, ⟨fun i b hb => ?_, fun i v hi => ?_, fun i j v v' r hij hi hj => ?_, fun i v r hi => H.pm p v r (hι i v hi).2, H.os, H.tape, H.output, H.size, H.keep, H.fresh, fun i v h3 hi => ?_, fun i v r hi => H.nf p v r (hι i v hi).2, H.forb⟩, ?_⟩
  ·by_cases h2 : id = i
   ·subst h2; rw [zb] at hb; cases hb
    refine ⟨v, by rw [if_pos rfl]; exact hvp, ?_⟩
    obtain ⟨r, E, clk, g1, g2, g3, g4, g5⟩ := hB
    refine ⟨r, E, clk, g1, g2, g3, fun i q m g6 g7 => ?_, g5⟩
    have hq := hes q (List.mem_of_getElem? g6)
    exact ⟨(g4 i q m g6 g7).1.ext hex fun j v hj => (by rw [hq.1] at hj; cases hj), (g4 i q m g6 g7).2.ext hex fun j v hj => (by rw [hq.2] at hj; cases hj)⟩
   ·rw [zd _ _ h2] at hb; cases hb
  ·have := (hι i v hi).1; subst this; exact ⟨_, zb _ _ _⟩
  ·have := (hι i v hi).1; have := (hι j v' hj).1; omega
  ·have := (hι i v hi).1; omega
  ·cases hv with
   | mp _ _ g1 g2 => exact .mp id u g1 fun v2 hv2 => g2 v2 (hι id v2 hv2).2⟩
theorem zcu {nt : Nat} {e : Env} {h h1 : Heap} (hs : ∀ j, look h1 j = look h j) : AWk nt e h e h1 := fun Pm F w0 pin ι a w R => ⟨ι, ⟨fun j b hj => R.heap.blk j b (by rw [← hs]; exact hj), fun j v hj => by rw [hs]; exact R.heap.dom j v hj, R.heap.inj, R.heap.pm, R.heap.os, R.heap.tape, R.heap.output, R.heap.size, R.heap.keep, R.heap.fresh, R.heap.pinned, R.heap.nf, R.heap.forb⟩, R.env, R.defers, R.size⟩
theorem zgX {h : Heap} {m : Nat} {b : ABlk} (hb : look h m = some b) (j : Nat) : look h j = look ((m, b) :: h) j := by
 by_cases hj : m = j
 ·subst hj; rw [zb, hb]
 ·rw [zd _ _ hj]
theorem zX (ρ : List (Nat × Nat)) (l : List (List UInt8)) : renB ρ (cntB l) = cntB l := by
 show ABlk.map _ = ABlk.map _
 congr 1
 unfold ents
 rw [List.map_map]
 rfl
theorem zaI (ρ : List (Nat × Nat)) (l : List (List UInt8)) : okB ρ (cntB l) := fun p hp => by
 obtain ⟨x, _, rfl⟩ := List.mem_map.1 hp
 exact ⟨rfl, rfl⟩
theorem zfo (a b : Nat) : ∀ p p' i, look [(a, b)] p = some i → look [(a, b)] p' = some i → p = p' := fun p p' i h1 h2 => by
 by_cases h3 : a = p
 ·by_cases h4 : a = p'
  ·rw [← h3, ← h4]
  ·rw [zd _ _ h4] at h2; cases h2
 ·rw [zd _ _ h3] at h1; cases h1
theorem zcF {a b : Nat} (ha : 1000 ≤ a) {x y : ABlk} : ∀ p i, look [(a, b)] p = some i → 1000 ≤ p ∧ (look [(a, x)] p).isSome = true ∧ (look [(a, y)] p).isSome = true := fun p i h1 => by
 by_cases h3 : a = p
 ·subst h3; exact ⟨ha, by rw [zb]; rfl, by rw [zb]; rfl⟩
 ·rw [zd _ _ h3] at h1; cases h1
attribute [local irreducible] AWp AOps AQ AYield AEff ACall AWk AAny AAt AThen AIn APost NoPanic
theorem zgR (l : List (List UInt8)) (s : List UInt8) : ACall Tryz.prog 126 [.mp 1000, strA s] [(1000, cntB l)] (fun c h => c = boolA (noneB l s) ∧ h = [(1000, cntB l)]) := by
 have hp := ziI l s
 obtain ⟨n, hn⟩ : ∃ n, (((aget (cntL l) s).getD 0 : Nat) : Int) = n := ⟨_, rfl⟩
 refine zc za Tryz.func126 rfl Tryz.ntmps126 (congrArg Array.toList Tryz.results126) (by kernel_rfl) rfl ?_
 unfold noneB
 by_cases h0 : s = []
 ·rw [decide_eq_true h0]
  repeat (first | refine q_Y ?_ | ((first | apply q_K rfl | apply q_X rfl); (first | exact q_H | (first | exact R_sT rfl rfl rfl rfl (decide_eq_true h0)))) | refine q_U ?_)
  exact zt (h2 := [(1000, cntB l)]) AWk.refl rfl ⟨rfl, trivial⟩ ⟨rfl, rfl⟩
 ·rw [decide_eq_false h0, Bool.false_or, ← hp]
  repeat (first | refine q_Y ?_ | ((first | apply q_K rfl | apply q_X rfl); (first | exact q_H | (first | exact R_sF rfl rfl rfl rfl (decide_eq_false h0) | exact zbg za rfl rfl rfl zC rfl rfl rfl rfl))) | refine q_U ?_)
  exact zt (h2 := [(1000, cntB l)]) AWk.refl rfl ⟨rfl, trivial⟩ ⟨rfl, rfl⟩
theorem za6 (l : List (List UInt8)) : ∀ q ∈ ents (fun s : List UInt8 => strA s) (fun n : Nat => natA' n) (cntL l), (∀ j, q.1.has j = false) ∧ ∀ j, q.2.has j = false := fun q hq => by
 obtain ⟨x, _, rfl⟩ := List.mem_map.1 hq
 exact ⟨fun _ => rfl, fun _ => rfl⟩
section
variable {nt : Nat} {Q : Post} {e : Env} {h : Heap} {ops : Array Oper} {o : Oper} {rest : List Oper}
theorem zbx {args : Array Operand} {ats : Array TypeId} {d m : Nat} {s : List UInt8} {l : List (List UInt8)} (hw : awant ops e o = some true) (hdst : o.dst = some d) (hd : Nat.blt d nt = true) (ho : o.op = .call { callee := .value (.func 126), args := args, argTypes := ats }) (hx : aevs e args.toList = some [.mp m, strA s]) (hb : look h m = some (cntB l))
  (HK : AOps Tryz.prog nt ops Q rest ((d, boolA (noneB l s)) :: e) h) : AOps Tryz.prog nt ops Q (o :: rest) e h :=
 O_cP [(1000, m)] (zfo _ _) (zcF (Nat.le_refl _)) (zgR l s) (fun c hc => by
  rcases List.mem_cons.1 hc with rfl | hc
  ·rfl
  ·rcases List.mem_cons.1 hc with rfl | hc
   ·rfl
   ·cases hc) ⟨⟨m, cntB l, rfl, hb, zX _ _, zaI _ _⟩, trivial⟩ hw hdst hd ho hx rfl (zR (zcu fun j => by
   show look h j = look ((m, renB _ (cntB l)) :: h) j
   rw [zX]; exact zgX hb j) HK)
end
theorem zan {α : Type} (nm : α → List UInt8) (l : List α) (k : Nat) (h : k < l.length) : (l.take k).map nm ++ [nm l[k]] = (l.take (k + 1)).map nm := by
 rw [List.take_succ_eq_append_getElem h, List.map_append]; rfl
set_option maxHeartbeats 4000000 in
theorem zj5 (id : Nat) (L : List (List UInt8)) (g : FuncId) (nm : (List UInt8) → List UInt8) (hg : ∀ x, ACall Tryz.prog g [strA x] [] (Just (strA (nm x)))) (hn : L.length ≤ 140737488355328) (hid : Nat.blt id 1000 = true) :
  ACall Tryz.prog 180 [.d (.sl (L.flatMap s1D) L.length), .fn g []] [] (fun c h => c = .mp id ∧ h = [(id, cntB (L.map nm))]) := by
 refine ACall.reidM (p := 8) id (za6 _) ?_ hid
 refine zc za Tryz.func180 rfl Tryz.ntmps180 (congrArg Array.toList Tryz.results180) (by kernel_rfl) rfl ?_
 repeat (first | refine q_Y ?_ | ((first | apply q_K rfl | apply q_X rfl); (exact q_H)) | refine q_U ?_ | (refine zac 8 rfl rfl rfl rfl rfl ?_))
 refine zw (fun k : Nat => [(0, .d (.sl (L.flatMap s1D) L.length)), (1, .fn g []), (5, .mp 8), (9, .d (.sl (L.flatMap s1D) L.length)), (10, intA (L.length : Int)), (11, intA (k : Int))]) (fun k => [(8, cntB ((L.take k).map nm))]) (fun k => k ≤ L.length) (fun k => L.length - k) 0 (Nat.zero_le _) (q_S) ?_
 intro k hk
 try dsimp only
 by_cases hkL : k < L.length
 ·have hq := hg L[k]
  have hw := zj zb1 L k 1 hkL (by decide)
  have hb : (aget (cntL ((L.take k).map nm)) (nm L[k])).getD 0 ≤ 140737488355328 := by
   rw [zaF]
   refine Nat.le_trans List.count_le_length ?_
   rw [List.length_map, List.length_take]; omega
  repeat (first | refine q_Y ?_ | ((first | apply q_K rfl | apply q_X rfl); (first | exact q_A | exact q_R (w := hw) | exact q_B | (first | exact zbg za rfl rfl rfl zC rfl rfl rfl rfl | exact zbg za rfl rfl rfl zC rfl (congrArg some (zV 7 _)) rfl rfl))) | refine q_U ?_ | (first | refine O_cF rfl rfl rfl rfl rfl rfl hq (fun _ => rfl) ?_ | refine zby za rfl rfl rfl rfl rfl rfl rfl rfl rfl ?_ | refine zby za rfl rfl rfl rfl rfl rfl (congrArg some (zV 7 _)) rfl rfl ?_))
  rw [zan nm L k hkL]
  exact ⟨k + 1, by omega, by omega, q_S⟩
 ·obtain rfl : k = L.length := by omega
  rw [List.take_length]
  repeat (first | refine q_Y ?_ | ((first | apply q_K rfl | apply q_X rfl); (exact q_H)) | refine q_U ?_)
  exact zt (h2 := [(8, cntB (L.map nm))]) AWk.refl rfl ⟨rfl, trivial⟩ ⟨rfl, rfl⟩
end Ab
end Go.Proofs.YtoahnbmedcjpeaaGreatDoor

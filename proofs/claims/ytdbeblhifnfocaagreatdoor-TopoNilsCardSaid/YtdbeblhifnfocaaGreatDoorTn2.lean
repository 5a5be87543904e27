/-
  Texts of a proof, one behind the other (part 3).
-/
import Derived.RangeFuncLeaves
import Derived.WalkKit
import Derived.Test.YtdbeblhifnfocaaGreatDoorTn1
set_option linter.unusedVariables false
set_option linter.unusedSimpArgs false
namespace Go.Proofs.YtdbeblhifnfocaaGreatDoor.Rn
set_option linter.unusedVariables false
open Go.RowKit
open Go.Proofs.YtdbeblhifnfocaaGreatDoor.Ab (TE TTab tlook TabOk TFacts win setW setW_get win_get Sh)

section
variable (P : Program) (tab : TTab) (e : Ev) (n : Nat) (h : Hp) (lo : Nat) (o : Oper)
def rGen : R := match gen P e o with
  | some v => some (nrm v, n, h, lo)
  | none => none
def rMove (x : Operand) : R := match ev e x with
  | some v => some (v, n, h, lo)
  | none => none
def rPick (x y z : Operand) : R := match ev e x with
  | some (.sc (.bool b)) => match ev e (cond b y z) with
    | some v => some (v, n, h, lo)
    | none => none
  | _ => none
def rExtract (x : Operand) (i : Nat) : R := match ev e x with
  | some (.tup cs) => match cs[i]? with
    | some v => some (v, n, h, lo)
    | none => none
  | _ => none
def rField (t : TypeId) (x : Operand) (f : Nat) : R := match ev e x with
  | some (.agg cs) => match tlook tab t with
    | some te => match te.sh with
      | .st fs => match fs[f]? with
        | some q => match tlook tab q.2 with
          | some te' => match whole te' (win cs q.1 te'.size) with
            | some v => some (v, n, h, lo)
            | none => none
          | none => none
        | none => none
      | _ => none
    | none => none
  | _ => none
def isPF : V → Bool
  | .ptr _ _ => true
  | .fn _ _ => true
  | _ => false
def rNilCheck (x : Operand) : R := match ev e x with
  | some v => match isPF v with
    | true => some (v, n, h, lo)
    | false => rGen P e n h lo o
  | none => none
def rBin (op : BinOp) (t : TypeId) (x y : Operand) : R := match ev e x, ev e y with
  | some (.sc (.int k a)), some (.sc (.int k' b)) => match decide (k = k') with
    | true => match Ab.ibin op k a b with
      | some r => some (.sc r, n, h, lo)
      | none => rGen P e n h lo o
    | false => rGen P e n h lo o
  | some v, some (.sc c) => match fits v c (P.underlying t) with
    | true => match op with
      | .eql => some (.sc (.bool false), n, h, lo)
      | .neq => some (.sc (.bool true), n, h, lo)
      | _ => none
    | false => rGen P e n h lo o
  | some v, some w => rGen P e n h lo o
  | _, _ => none
def rLoad (t : TypeId) (x : Operand) : R := match ev e x with
  | some (.ptr id off) => match tlook tab t with
    | some te => match h.get id with
      | some (.cells cs _) => match whole te (win cs off te.size) with
        | some v => some (v, n, h, lo)
        | none => none
      | _ => none
    | none => none
  | _ => none
def rStore (t : TypeId) (x y : Operand) : R := match ev e x with
  | some (.ptr id off) => match tlook tab t with
    | some te => match h.get id with
      | some (.cells cs more) => match ev e y with
        | some v => match (cellsV v).all one && Nat.beq (cellsV v).length te.size && Nat.ble (off + te.size) cs.length with
          | true => some (.sc undef, n, h.set id (.cells (setW cs off (cellsV v)) more), lmin id lo)
          | false => none
        | none => none
      | _ => none
    | none => none
  | _ => none
def rFieldAddr (t : TypeId) (x : Operand) (f : Nat) : R := match ev e x with
  | some (.ptr id off) => match tlook tab t with
    | some te => match te.sh with
      | .st fs => match fs[f]? with
        | some q => match tlook tab q.2 with
          | some te' => match Nat.beq te'.size 0 with
            | false => match h.get id with
              | some _ => some (.ptr id (off + q.1), n, h, lo)
              | none => none
            | true => none
          | none => none
        | none => none
      | _ => none
    | none => none
  | _ => none
def rIndexAddr (t : TypeId) (x y : Operand) : R := match ev e x, ev e y with
  | some (.sl id off len k cap), some (.sc (.int q i)) => match tlook tab t with
    | some te => match te.sh with
      | .sl el => match tlook tab el with
        | some te' => match decide (0 ≤ i ∧ i < (len : Int)) with
          | true => some (.ptr id (off + i.toNat * te'.size), n, h, lo)
          | false => none
        | none => none
      | _ => none
    | none => none
  | some (.ptr id off), some (.sc (.int q i)) => match tlook tab t with
    | some te => match te.sh with
      | .ar N el => match tlook tab el with
        | some te' => match decide (0 ≤ i ∧ i < (N : Int)) with
          | true => match h.get id with
            | some _ => some (.ptr id (off + i.toNat * te'.size), n, h, lo)
            | none => none
          | false => none
        | none => none
      | _ => none
    | none => none
  | _, _ => none
def rIndex (t : TypeId) (x y : Operand) : R := match ev e x, ev e y with
  | some (.agg cs), some (.sc (.int q i)) => match tlook tab t with
    | some te => match te.sh with
      | .ar N el => match tlook tab el with
        | some te' => match decide (0 ≤ i ∧ i < (N : Int)) with
          | true => match whole te' (win cs (i.toNat * te'.size) te'.size) with
            | some v => some (v, n, h, lo)
            | none => none
          | false => none
        | none => none
      | _ => none
    | none => none
  | some _, some _ => rGen P e n h lo o
  | _, _ => none
def rAlloc (t : TypeId) : R := match tlook tab t with
  | some te => some (.ptr n 0, n + 1, h.set n (.cells (te.zero.map .sc) false), lo)
  | none => none
def rBox (x : Operand) : R := match ev e x with
  | some v => some (.ptr n 0, n + 1, h.set n (.cells (cellsV v) false), lo)
  | none => none
def rBuild (t : TypeId) (ps : Array (Nat × Operand)) : R := match tlook tab t with
  | some te => match vparts e ps.toList with
    | some al => match te.sh with
      | .st fs => match fs.all (fun f => (tlook tab f.2).isSome) with
        | true => match vfill (Ab.stPlace tab fs) (te.zero.map .sc) al with
          | some xs => some (.agg xs, n, h, lo)
          | none => none
        | false => none
      | .ar N el => match tlook tab el with
        | some te' => match vfill (fun i => some (i * te'.size, te'.size)) (te.zero.map .sc) al with
          | some xs => some (.agg xs, n, h, lo)
          | none => none
        | none => none
      | _ => none
    | none => none
  | none => none
def rBuildSlice (t : TypeId) (len : Nat) (ps : Array (Nat × Operand)) : R := match tlook tab t with
  | some te => match te.sh with
    | .sl el => match tlook tab el with
      | some te' => match vparts e ps.toList with
        | some al => match Nat.beq te'.zero.length te'.size && Nat.blt (len * te'.size) 16777216 with
          | true => match vfill (fun i => some (i * te'.size, te'.size)) ((zs te' len).map .sc) al with
            | some xs => some (.sl n 0 len te'.size (some len), n + 1, h.set n (.cells xs false), lo)
            | none => none
          | false => none
        | none => none
      | none => none
    | _ => none
  | none => none
def rMakeSlice (t : TypeId) (x y : Operand) : R := match ev e x, ev e y with
  | some (.sc (.int q1 l)), some (.sc (.int q2 c)) => match tlook tab t with
    | some te => match te.sh with
      | .sl el => match tlook tab el with
        | some te' => match decide (0 ≤ l ∧ 0 ≤ c) && Nat.beq te'.zero.length te'.size && Nat.ble l.toNat c.toNat && Nat.ble c.toNat 1000000 && Nat.ble te'.bytes 65536 with
          | true => some (.sl n 0 l.toNat te'.size (some c.toNat), n + 1, h.set n (.cells ((zs te' c.toNat).map .sc) false), lo)
          | false => none
        | none => none
      | _ => none
    | none => none
  | _, _ => none
def rSlice (t : TypeId) (x : Operand) (lw hi mx : Option Operand) : R := match ev e x with
  | some (.sl id off len k cap) => match tlook tab t with
    | some te => match te.sh with
      | .sl el => match tlook tab el with
        | some te' => match Nat.beq te'.size k with
          | true => match bnd e lw, bnd e hi, bnd e mx with
            | some l, some hh, some m => match cutV id off len k cap l hh m with
              | some v => some (v, n, h, lo)
              | none => none
            | _, _, _ => none
          | false => none
        | none => none
      | _ => none
    | none => none
  | some (.ptr id off) => match tlook tab t with
    | some te => match te.sh with
      | .ar N el => match tlook tab el with
        | some te' => match h.get id with
          | some _ => match bnd e lw, bnd e hi, bnd e mx with
            | some l, some hh, some m => match cutV id off N te'.size (some N) l hh m with
              | some v => some (v, n, h, lo)
              | none => none
            | _, _, _ => none
          | none => none
        | none => none
      | _ => none
    | none => none
  | some _ => rGen P e n h lo o
  | none => none
def rLookup (t : TypeId) (x y : Operand) (ok : Bool) : R := match ev e x with
  | some (.mp id) => match tlook tab t with
    | some te => match te.sh with
      | .mp K El => match h.get id with
        | some (.map es _) => match ev e y with
          | some k => match tv k with
            | some kv => match place P K kv es.isEmpty es with
              | some r => match atV P El es r with
                | some v => some (cond ok (.tup [v, .sc (.bool r.isSome)]) v, n, h, lo)
                | none => none
              | none => none
            | none => none
          | none => none
        | _ => none
      | _ => none
    | none => none
  | some _ => rGen P e n h lo o
  | none => none
def rMapUpdate (t : TypeId) (x y z : Operand) : R := match ev e x with
  | some (.mp id) => match tlook tab t with
    | some te => match te.sh with
      | .mp K El => match h.get id with
        | some (.map es clk) => match ev e y, ev e z with
          | some k, some v => match tv k with
            | some kv => match place P K kv false es with
              | some r => match keyStays es kv r with
                | true => some (.sc undef, n, h.set id (.map (putV es clk k v r).1 (putV es clk k v r).2), lmin id lo)
                | false => none
              | none => none
            | none => none
          | _, _ => none
        | _ => none
      | _ => none
    | none => none
  | _ => none
def rMapEntry (t : TypeId) (x y : Operand) : R := match ev e x with
  | some (.mp id) => match tlook tab t with
    | some te => match te.sh with
      | .mp K El => match h.get id with
        | some (.map es clk) => match ev e y with
          | some k => match tv k with
            | some kv => match place P K kv false es with
              | some r => match keyStays es kv r with
                | true => match entV P El es clk r with
                  | some q => some (.tup [q.1, .sc (.int .i64 (q.2 : Int))], n, h.set id (.map (putV es clk k q.1 r).1 (putV es clk k q.1 r).2), lmin id lo)
                  | none => none
                | false => none
              | none => none
            | none => none
          | none => none
        | _ => none
      | _ => none
    | none => none
  | _ => none
def rEntryStore (x y z : Operand) : R := match ev e x with
  | some (.mp id) => match h.get id with
    | some (.map es clk) => match ev e y, ev e z with
      | some (.sc (.int q b)), some v => match decide (0 ≤ b) with
        | true => match stampAt es b.toNat 0 with
          | some j => match es[j]? with
            | some p => some (.sc undef, n, h.set id (.map (es.set j (p.1, v, p.2.2)) clk), lmin id lo)
            | none => none
          | none => none
        | false => none
      | _, _ => none
    | _ => none
  | _ => none
def isStr : Option TypeDesc → Bool
  | some .string => true
  | _ => false
def isMapD : Option TypeDesc → Bool
  | some (.map _ _) => true
  | _ => false
def rRange (t : TypeId) (x : Operand) : R := match ev e x with
  | some (.sc (.string s)) => match isStr (P.underlying t) with
    | true => some (.ptr n 0, n + 1, h.set n (.sit s 0), lo)
    | false => none
  | some (.sc (.map none)) => match isMapD (P.underlying t) with
    | true => some (.ptr n 0, n + 1, h.set n (.mit none 0 [] 0), lo)
    | false => none
  | some (.mp id) => match isMapD (P.underlying t) with
    | true => match h.get id with
      | some (.map _ clk) => some (.ptr n 0, n + 1, h.set n (.mit (some id) clk [] clk), lo)
      | _ => none
    | false => none
  | _ => none
def rNext (x : Operand) (isS : Bool) : R := match ev e x with
  | some (.ptr id 0) => match h.get id with
    | some (.sit s pos) => match isS with
      | true => match Nat.blt pos s.size with
        | true => some (.tup [.sc (.bool true), .sc (.int .i64 (pos : Int)), .sc (.int .i32 (Utf8.decode s pos).1)], n, h.set id (.sit s (pos + (Utf8.decode s pos).2)), lmin id lo)
        | false => some (.tup [.sc (.bool false)], n, h, lo)
      | false => none
    | some (.mit none _ _ _) => match isS with
      | true => none
      | false => some (.tup [.sc (.bool false)], n, h, lo)
    | some (.mit (some mid) since seen st) => match isS with
      | true => none
      | false => match h.get mid with
        | some (.map es clk) => match stepOk es seen st since with
          | true => match leftV es seen with
            | [] => some (.tup [.sc (.bool false)], n, h, lo)
            | [p] => some (.tup [.sc (.bool true), p.1, p.2.1], n, h.set id (.mit (some mid) since (seen ++ [p.2.2]) clk), lmin id lo)
            | _ => none
          | false => none
        | _ => none
    | _ => none
  | _ => none
def rMakeFunc (fn : Fn) (first caps : Array Operand) : R := match fn, first.toList with
  | .func f, [] => match evs e caps.toList with
    | some cs => some (.fn f cs, n, h, lo)
    | none => none
  | _, _ => none
def rMakeIface (t : TypeId) (x : Operand) : R := match ev e x with
  | some v => match noIface (P.underlying t) with
    | true => some (.ifc t v, n, h, lo)
    | false => none
  | none => none
def rLen (t : TypeId) (x : Operand) : R := match ev e x with
  | some v => match lenFits v (P.underlying t) with
    | true => match lenV h v with
      | some k => some (.sc (.int .i64 (k : Int)), n, h, lo)
      | none => none
    | false => rGen P e n h lo o
  | none => none
def rConv (src dst : TypeId) (x : Operand) : R := match ev e x with
  | some (.sl id off len _ _) => match P.underlying src, P.underlying dst with
    | some (.slice el), some .string => match P.underlying el with
      | some (.int .u8) => match h.get id with
        | some (.cells cs _) => match u8s (win cs off len) with
          | some ns => match Nat.beq ns.length len with
            | true => some (nrm (.sc (.string (strOf ns))), n, h, lo)
            | false => none
          | none => none
        | _ => none
      | _ => none
    | _, _ => none
  | some (.sc (.string s)) => match P.underlying src, P.underlying dst with
    | some _, some (.slice el) => match P.underlying el with
      | some (.int .u8) => some (.sl n 0 s.size 1 none, n + 1, h.set n (.cells ((bytesV s).map .sc) true), lo)
      | _ => none
    | _, _ => rGen P e n h lo o
  | some _ => rGen P e n h lo o
  | none => none
def rCap (t : TypeId) (x : Operand) : R := match ev e x with
  | some (.sl id off len k (some c)) => match lenFits (.sl id off len k (some c)) (P.underlying t) with
    | true => some (.sc (.int .i64 (c : Int)), n, h, lo)
    | false => none
  | some (.sl _ _ _ _ none) => none
  | some _ => rGen P e n h lo o
  | none => none
def rAppend (t tx : TypeId) (x y : Operand) : R := match ev e x, ev e y with
  | some s, some v => match tlook tab t with
    | some te => match te.sh with
      | .sl el => match tlook tab el with
        | some te' => match Nat.beq te'.zero.length te'.size && srcFits v (P.underlying tx) with
          | true => match srcV h te'.size v with
            | some q => appR te' n h lo s q.1 q.2
            | none => none
          | false => none
        | none => none
      | _ => none
    | none => none
  | _, _ => none
def rCopy (t tx : TypeId) (x y : Operand) : R := match ev e x, ev e y with
  | some (.sl id off len k cap), some v => match tlook tab t with
    | some te => match te.sh with
      | .sl el => match tlook tab el with
        | some te' => match h.get id with
          | some (.cells cs more) => match srcV h te'.size v with
            | some q => match Nat.beq k te'.size && srcFits v (P.underlying tx) && Nat.beq q.2.length (q.1 * te'.size) && Nat.ble (off + len * te'.size) cs.length with
              | true => some (.sc (.int .i64 ((Nat.min q.1 len : Nat) : Int)), n, h.set id (.cells (setW cs off (q.2.take (Nat.min q.1 len * te'.size))) more), lmin id lo)
              | false => none
            | none => none
          | _ => none
        | none => none
      | _ => none
    | none => none
  | _, _ => none
def rDelete (t : TypeId) (x y : Operand) : R := match ev e x with
  | some (.mp id) => match tlook tab t with
    | some te => match te.sh with
      | .mp K El => match h.get id with
        | some (.map es clk) => match ev e y with
          | some k => match tv k with
            | some kv => match place P K kv es.isEmpty es with
              | some r => some (.sc (.tuple #[]), n, h.set id (.map (delV es r) clk), lmin id lo)
              | none => none
            | none => none
          | none => none
        | _ => none
      | _ => none
    | none => none
  | _ => none
def rCall (call : FuncId → List V → Nat → Hp → Nat → R) (known : FuncId → Bool) (c : Call) : R := match c.callee with
  | .builtin b => match b, c.args.toList, c.argTypes.toList with
    | .len, [x], [t] => rLen P e n h lo o t x
    | .cap, [x], [t] => rCap P e n h lo o t x
    | .append, [x, y], [t, tx] => rAppend P tab e n h lo t tx x y
    | .copy, [x, y], [t, tx] => rCopy P tab e n h lo t tx x y
    | .delete, [x, y], [t, tk] => rDelete P tab e n h lo t x y
    | _, _, _ => rGen P e n h lo o
  | .value f => match ev e f with
    | some (.fn g caps) => match known g with
      | true => match evs e c.args.toList with
        | some cs => call g (cs ++ caps) n h lo
        | none => none
      | false => rGen P e n h lo o
    | _ => none
  | .invoke _ _ => rGen P e n h lo o
def rop (call : FuncId → List V → Nat → Hp → Nat → R) (known : FuncId → Bool) : R := match o.op with
  | .move x => rMove e n h lo x
  | .assign x => rMove e n h lo x
  | .pick x y z => rPick e n h lo x y z
  | .extract x i => rExtract e n h lo x i
  | .field t x f => rField tab e n h lo t x f
  | .nilCheck x => rNilCheck P e n h lo o x
  | .binOp op t x y _ => rBin P e n h lo o op t x y
  | .load t x => rLoad tab e n h lo t x
  | .store t x y => rStore tab e n h lo t x y
  | .fieldAddr t x f => rFieldAddr tab e n h lo t x f
  | .indexAddr t x y => rIndexAddr tab e n h lo t x y
  | .index t x y => rIndex P tab e n h lo o t x y
  | .alloc t => rAlloc tab n h lo t
  | .box _ x => rBox e n h lo x
  | .build t ps => rBuild tab e n h lo t ps
  | .buildSlice t len ps => rBuildSlice tab e n h lo t len ps
  | .makeSlice t x y => rMakeSlice tab e n h lo t x y
  | .slice t x a b c => rSlice P tab e n h lo o t x a b c
  | .lookup t x y ok => rLookup P tab e n h lo o t x y ok
  | .mapUpdate t x y z => rMapUpdate P tab e n h lo t x y z
  | .insert t x y z => rMapUpdate P tab e n h lo t x y z
  | .mapEntry t x y => rMapEntry P tab e n h lo t x y
  | .entryStore _ x y z => rEntryStore e n h lo x y z
  | .makeMap _ none => some (.mp n, n + 1, h.set n (.map [] 0), lo)
  | .range t x => rRange P e n h lo t x
  | .next x s => rNext e n h lo x s
  | .makeFunc fn first caps => rMakeFunc e n h lo fn first caps
  | .makeInterface t x => rMakeIface P e n h lo t x
  | .convert src dst x => rConv P e n h lo o src dst x
  | .call c => rCall P tab e n h lo o call known c
  | _ => rGen P e n h lo o
end

section
variable {P : Program} {tab : TTab} {e : Ev} {n : Nat} {h : Hp} {lo : Nat} {o : Oper} {r : V × Nat × Hp × Nat}
theorem rGen_good (hr : rGen P e n h lo o = some r) : Good P o e n h lo r := by
  unfold rGen at hr
  split at hr
  · rename_i v hg
    cases hr
    have := gen_good (n := n) (h := h) (lo := lo) hg
    refine ⟨this.1, fun ι a w pre K Q hK => this.2 ι a w ⟨pre.heap, pre.env, pre.free⟩ K Q fun ι' u w' h1 => hK ι' u w' (nrm_rel h1)⟩
  · cases hr
theorem rMove_good {x : Operand} (ho : o.op = .move x ∨ o.op = .assign x) (hr : rMove e n h lo x = some r) : Good P o e n h lo r := by
  unfold rMove at hr
  split at hr
  · rename_i v hx; cases hr; exact good_move ho hx
  · cases hr
theorem rPick_good {x y z : Operand} (ho : o.op = .pick x y z) (hr : rPick e n h lo x y z = some r) : Good P o e n h lo r := by
  unfold rPick at hr
  split at hr
  · rename_i b hx
    split at hr
    · rename_i v hy; cases hr; exact good_pick ho hx hy
    · cases hr
  · cases hr
theorem rExtract_good {x : Operand} {i : Nat} (ho : o.op = .extract x i) (hr : rExtract e n h lo x i = some r) : Good P o e n h lo r := by
  unfold rExtract at hr
  split at hr
  · rename_i cs hx
    split at hr
    · rename_i v hy; cases hr; exact good_extract ho hx hy
    · cases hr
  · cases hr
theorem rField_good {t : TypeId} {x : Operand} {f : Nat} (TO : TabOk P tab) (ho : o.op = .field t x f) (hr : rField tab e n h lo t x f = some r) : Good P o e n h lo r := by
  unfold rField at hr
  split at hr
  · rename_i cs hx
    split at hr
    · rename_i te ht
      split at hr
      · rename_i fs hs
        split at hr
        · rename_i q hf
          split at hr
          · rename_i te' hft
            split at hr
            · rename_i v hw; cases hr; exact good_field TO ho ht hs hf hft hx hw
            · cases hr
          · cases hr
        · cases hr
      · cases hr
    · cases hr
  · cases hr
theorem rNilCheck_good {x : Operand} (ho : o.op = .nilCheck x) (hr : rNilCheck P e n h lo o x = some r) : Good P o e n h lo r := by
  unfold rNilCheck at hr
  split at hr
  · rename_i v hx
    split at hr
    · rename_i hv; cases hr; exact good_nilCheck ho hx (by cases v <;> first | rfl | cases hv)
    · exact rGen_good hr
  · cases hr
theorem good_ibin {op : BinOp} {t u : TypeId} {x y : Operand} {k : IntKind} {a b : Int} {z : Value} (ho : o.op = .binOp op t x y u) (hx : ev e x = some (.sc (.int k a))) (hy : ev e y = some (.sc (.int k b))) (hz : Ab.ibin op k a b = some z) : Good P o e n h lo (.sc z, n, h, lo) :=
  good_value fun ι ac w H E => ⟨z, .sc z, by
    simp only [execOp, ho, tv_rel (ev_rel E hx) _ rfl, tv_rel (ev_rel E hy) _ rfl]
    cases op <;> simp [Ab.ibin] at hz <;> subst hz <;> simp [eqGuard, binOp, Op.intArith, Op.intCmp]⟩
theorem good_nil2 {op : BinOp} {t u : TypeId} {x y : Operand} {c : Value} {v : V} {q : Bool} (ho : o.op = .binOp op t x y u) (hx : ev e x = some v) (hy : ev e y = some (.sc c)) (hf : fits v c (P.underlying t) = true) (hr : (match op with | .eql => some false | .neq => some true | _ => none) = some q) : Good P o e n h lo (.sc (.bool q), n, h, lo) :=
  good_value fun ι a w H E => by
    have hv := ev_rel E hx
    refine ⟨.bool q, .sc _, ?_⟩
    have ev := tv_rel (ev_rel E hy) _ rfl
    cases hd : P.underlying t with
    | none => rw [hd] at hf; unfold fits at hf; split at hf <;> simp_all
    | some d =>
      rw [hd] at hf
      have e9 : Op.maxDepth = 9999 + 1 := rfl
      rcases fits_shape hv hf with ⟨q, el, h1, h2, h3⟩ | ⟨q, l, k, el, h1, h2, h3⟩ | ⟨q, k, el, h1, h2, h3⟩ | ⟨f, C, p1, p2, p3, h1, h2, h3⟩ | ⟨tt, y, ms, h1, h2, h3⟩
      · subst h2 h3
        have key := eqn_ptr w 9999 hd q
        cases op <;> simp at hr <;> subst hr <;> simp only [execOp, ho, h1, ev, eqGuard, binOp, Op.equal] <;> rw [e9] <;> simp [key]
      · subst h2 h3
        have key := eqn_sl w 9999 hd q l k
        cases op <;> simp at hr <;> subst hr <;> simp only [execOp, ho, h1, ev, eqGuard, binOp, Op.equal] <;> rw [e9] <;> simp [key]
      · subst h2 h3
        have key := eqn_map w 9999 hd q
        cases op <;> simp at hr <;> subst hr <;> simp only [execOp, ho, h1, ev, eqGuard, binOp, Op.equal] <;> rw [e9] <;> simp [key]
      · subst h2 h3
        have key := eqn_fn w 9999 hd f C
        cases op <;> simp at hr <;> subst hr <;> simp only [execOp, ho, h1, ev, eqGuard, binOp, Op.equal] <;> rw [e9] <;> simp [key]
      · subst h2 h3
        have key := eqn_ifc w 9999 hd tt y
        cases op <;> simp at hr <;> subst hr <;> simp only [execOp, ho, h1, ev, eqGuard, binOp, Op.equal] <;> rw [e9] <;> simp [key]
theorem rBin_good {op : BinOp} {t u : TypeId} {x y : Operand} (ho : o.op = .binOp op t x y u) (hr : rBin P e n h lo o op t x y = some r) : Good P o e n h lo r := by
  unfold rBin at hr
  split at hr
  · rename_i k a k' b hx hy
    split at hr
    · rename_i hk
      have hk := of_decide_eq_true hk
      subst hk
      split at hr
      · rename_i z hz; cases hr; exact good_ibin ho hx hy hz
      · exact rGen_good hr
    · exact rGen_good hr
  · rename_i v c _ hx hy
    split at hr
    · rename_i hf
      split at hr
      · cases hr; exact good_nil2 ho hx hy hf rfl
      · cases hr; exact good_nil2 ho hx hy hf rfl
      · cases hr
    · exact rGen_good hr
  · exact rGen_good hr
  · cases hr
theorem rLoad_good {t : TypeId} {x : Operand} (TO : TabOk P tab) (ho : o.op = .load t x) (hr : rLoad tab e n h lo t x = some r) : Good P o e n h lo r := by
  unfold rLoad at hr
  split at hr
  · rename_i id off hx
    split at hr
    · rename_i te ht
      split at hr
      · rename_i cs more hb
        split at hr
        · rename_i v hw; cases hr; exact good_load TO ho ht hx hb hw
        · cases hr
      · cases hr
    · cases hr
  · cases hr
theorem rStore_good {t : TypeId} {x y : Operand} (TO : TabOk P tab) (ho : o.op = .store t x y) (hr : rStore tab e n h lo t x y = some r) : Good P o e n h lo r := by
  unfold rStore at hr
  split at hr
  · rename_i id off hx
    split at hr
    · rename_i te ht
      split at hr
      · rename_i cs more hb
        split at hr
        · rename_i v hy
          split at hr
          · rename_i hc
            cases hr
            simp only [Bool.and_eq_true] at hc
            exact good_store TO ho ht hx hb hy hc.1.1 hc.1.2 hc.2
          · cases hr
        · cases hr
      · cases hr
    · cases hr
  · cases hr
theorem rFieldAddr_good {t : TypeId} {x : Operand} {f : Nat} (TO : TabOk P tab) (ho : o.op = .fieldAddr t x f) (hr : rFieldAddr tab e n h lo t x f = some r) : Good P o e n h lo r := by
  unfold rFieldAddr at hr
  split at hr
  · rename_i id off hx
    split at hr
    · rename_i te ht
      split at hr
      · rename_i fs hs
        split at hr
        · rename_i q hf
          split at hr
          · rename_i te' hft
            split at hr
            · rename_i hz
              split at hr
              · rename_i b hb; cases hr; exact good_fieldAddr TO ho ht hs hf hft hz hx hb
              · cases hr
            · cases hr
          · cases hr
        · cases hr
      · cases hr
    · cases hr
  · cases hr
theorem rIndexAddr_good {t : TypeId} {x y : Operand} (TO : TabOk P tab) (ho : o.op = .indexAddr t x y) (hr : rIndexAddr tab e n h lo t x y = some r) : Good P o e n h lo r := by
  unfold rIndexAddr at hr
  split at hr
  · rename_i id off len k cap q i hx hy
    split at hr
    · rename_i te ht
      split at hr
      · rename_i el hs
        split at hr
        · rename_i te' hel
          split at hr
          · rename_i hi; cases hr; exact good_indexAddr TO ho ht hs hel hx hy (of_decide_eq_true hi)
          · cases hr
        · cases hr
      · cases hr
    · cases hr
  · rename_i id off q i hx hy
    split at hr
    · rename_i te ht
      split at hr
      · rename_i N el hs
        split at hr
        · rename_i te' hel
          split at hr
          · rename_i hi
            split at hr
            · rename_i b hb; cases hr; exact good_indexArr TO ho ht hs hel hx hb hy (of_decide_eq_true hi)
            · cases hr
          · cases hr
        · cases hr
      · cases hr
    · cases hr
  · cases hr
theorem rIndex_good {t : TypeId} {x y : Operand} (TO : TabOk P tab) (ho : o.op = .index t x y) (hr : rIndex P tab e n h lo o t x y = some r) : Good P o e n h lo r := by
  unfold rIndex at hr
  split at hr
  · rename_i cs q i hx hy
    split at hr
    · rename_i te ht
      split at hr
      · rename_i N el hs
        split at hr
        · rename_i te' hel
          split at hr
          · rename_i hi
            split at hr
            · rename_i v hw; cases hr; exact good_index TO ho ht hs hel hx hy (of_decide_eq_true hi) hw
            · cases hr
          · cases hr
        · cases hr
      · cases hr
    · cases hr
  · exact rGen_good hr
  · cases hr
theorem rAlloc_good {t : TypeId} (TO : TabOk P tab) (ho : o.op = .alloc t) (hr : rAlloc tab n h lo t = some r) : Good P o e n h lo r := by
  unfold rAlloc at hr
  split at hr
  · rename_i te ht; cases hr; exact good_alloc TO ho ht
  · cases hr
theorem rBox_good {t : TypeId} {x : Operand} (ho : o.op = .box t x) (hr : rBox e n h lo x = some r) : Good P o e n h lo r := by
  unfold rBox at hr
  split at hr
  · rename_i v hx; cases hr; exact good_box ho hx
  · cases hr
theorem rBuild_good {t : TypeId} {ps : Array (Nat × Operand)} (TO : TabOk P tab) (ho : o.op = .build t ps) (hr : rBuild tab e n h lo t ps = some r) : Good P o e n h lo r := by
  unfold rBuild at hr
  split at hr
  · rename_i te ht
    split at hr
    · rename_i al hal
      split at hr
      · rename_i fs hs
        split at hr
        · rename_i hfs
          split at hr
          · rename_i xs hf; cases hr; exact good_build TO ho ht hs hfs hal hf
          · cases hr
        · cases hr
      · rename_i N el hs
        split at hr
        · rename_i te' hel
          split at hr
          · rename_i xs hf; cases hr; exact good_buildArr TO ho ht hs hel hal hf
          · cases hr
        · cases hr
      · cases hr
    · cases hr
  · cases hr
theorem rBuildSlice_good {t : TypeId} {len : Nat} {ps : Array (Nat × Operand)} (TO : TabOk P tab) (ho : o.op = .buildSlice t len ps) (hr : rBuildSlice tab e n h lo t len ps = some r) : Good P o e n h lo r := by
  unfold rBuildSlice at hr
  split at hr
  · rename_i te ht
    split at hr
    · rename_i el hs
      split at hr
      · rename_i te' hel
        split at hr
        · rename_i al hal
          split at hr
          · rename_i hc
            split at hr
            · rename_i xs hf
              cases hr
              simp only [Bool.and_eq_true] at hc
              exact good_buildSlice TO ho ht hs hel hc.1 hc.2 hal hf
            · cases hr
          · cases hr
        · cases hr
      · cases hr
    · cases hr
  · cases hr
theorem rMakeSlice_good {t : TypeId} {x y : Operand} (TO : TabOk P tab) (ho : o.op = .makeSlice t x y) (hr : rMakeSlice tab e n h lo t x y = some r) : Good P o e n h lo r := by
  unfold rMakeSlice at hr
  split at hr
  · rename_i q1 l q2 c hx hy
    split at hr
    · rename_i te ht
      split at hr
      · rename_i el hs
        split at hr
        · rename_i te' hel
          split at hr
          · rename_i hc
            cases hr
            simp only [Bool.and_eq_true, decide_eq_true_eq] at hc
            obtain ⟨⟨⟨⟨⟨h1, h2⟩, h3⟩, h4⟩, h5⟩, h6⟩ := hc
            refine good_makeSlice (q1 := q1) (q2 := q2) TO ho ht hs hel h3 ?_ ?_ h4 h5 h6
            · rw [hx, Int.toNat_of_nonneg h1]
            · rw [hy, Int.toNat_of_nonneg h2]
          · cases hr
        · cases hr
      · cases hr
    · cases hr
  · cases hr
theorem rSlice_good {t : TypeId} {x : Operand} {lw hi mx : Option Operand} (TO : TabOk P tab) (ho : o.op = .slice t x lw hi mx) (hr : rSlice P tab e n h lo o t x lw hi mx = some r) : Good P o e n h lo r := by
  unfold rSlice at hr
  split at hr
  · rename_i id off len k cap hx
    split at hr
    · rename_i te ht
      split at hr
      · rename_i el hs
        split at hr
        · rename_i te' hel
          split at hr
          · rename_i hk
            split at hr
            · rename_i l hh m h1 h2 h3
              split at hr
              · rename_i v hv; cases hr; exact good_cut TO ho ht hs hel hk hx h1 h2 h3 hv
              · cases hr
            · cases hr
          · cases hr
        · cases hr
      · cases hr
    · cases hr
  · rename_i id off hx
    split at hr
    · rename_i te ht
      split at hr
      · rename_i N el hs
        split at hr
        · rename_i te' hel
          split at hr
          · rename_i b hb
            split at hr
            · rename_i l hh m h1 h2 h3
              split at hr
              · rename_i v hv; cases hr; exact good_cutArr TO ho ht hs hel hx hb h1 h2 h3 hv
              · cases hr
            · cases hr
          · cases hr
        · cases hr
      · cases hr
    · cases hr
  · exact rGen_good hr
  · cases hr
theorem rLookup_good {t : TypeId} {x y : Operand} {ok : Bool} (TO : TabOk P tab) (ho : o.op = .lookup t x y ok) (hr : rLookup P tab e n h lo o t x y ok = some r) : Good P o e n h lo r := by
  unfold rLookup at hr
  split at hr
  · rename_i id hx
    split at hr
    · rename_i te ht
      split at hr
      · rename_i K El hs
        split at hr
        · rename_i es clk hb
          split at hr
          · rename_i k hy
            split at hr
            · rename_i kv hk
              split at hr
              · rename_i q hp
                split at hr
                · rename_i v hv; cases hr; exact good_lookup TO ho ht hs hx hb hy hk hp hv
                · cases hr
              · cases hr
            · cases hr
          · cases hr
        · cases hr
      · cases hr
    · cases hr
  · exact rGen_good hr
  · cases hr
theorem rMapUpdate_good {t : TypeId} {x y z : Operand} (TO : TabOk P tab) (ho : o.op = .mapUpdate t x y z ∨ o.op = .insert t x y z) (hr : rMapUpdate P tab e n h lo t x y z = some r) : Good P o e n h lo r := by
  unfold rMapUpdate at hr
  split at hr
  · rename_i id hx
    split at hr
    · rename_i te ht
      split at hr
      · rename_i K El hs
        split at hr
        · rename_i es clk hb
          split at hr
          · rename_i k v hy hz
            split at hr
            · rename_i kv hk
              split at hr
              · rename_i q hp
                split at hr
                · rename_i hst; cases hr; exact good_mapUpdate TO ho ht hs hx hb hy hz hk hp hst
                · cases hr
              · cases hr
            · cases hr
          · cases hr
        · cases hr
      · cases hr
    · cases hr
  · cases hr
theorem rMapEntry_good {t : TypeId} {x y : Operand} (TO : TabOk P tab) (ho : o.op = .mapEntry t x y) (hr : rMapEntry P tab e n h lo t x y = some r) : Good P o e n h lo r := by
  unfold rMapEntry at hr
  split at hr
  · rename_i id hx
    split at hr
    · rename_i te ht
      split at hr
      · rename_i K El hs
        split at hr
        · rename_i es clk hb
          split at hr
          · rename_i k hy
            split at hr
            · rename_i kv hk
              split at hr
              · rename_i q hp
                split at hr
                · rename_i hst
                  split at hr
                  · rename_i v hv; cases hr; exact good_mapEntry TO ho ht hs hx hb hy hk hp hst hv
                  · cases hr
                · cases hr
              · cases hr
            · cases hr
          · cases hr
        · cases hr
      · cases hr
    · cases hr
  · cases hr
theorem rEntryStore_good {t : TypeId} {x y z : Operand} (ho : o.op = .entryStore t x y z) (hr : rEntryStore e n h lo x y z = some r) : Good P o e n h lo r := by
  unfold rEntryStore at hr
  split at hr
  · rename_i id hx
    split at hr
    · rename_i es clk hb
      split at hr
      · rename_i q b v hy hz
        split at hr
        · rename_i hb0
          have hb0 := of_decide_eq_true hb0
          split at hr
          · rename_i j hj
            split at hr
            · rename_i p hp
              cases hr
              exact good_entryStore (q := q) ho hx hb (by rw [hy, Int.toNat_of_nonneg hb0]) hz hj hp
            · cases hr
          · cases hr
        · cases hr
      · cases hr
    · cases hr
  · cases hr
theorem isMapD_spec {d : Option TypeDesc} (hd : isMapD d = true) : ∃ K El, d = some (.map K El) := by
  unfold isMapD at hd; split at hd
  · exact ⟨_, _, rfl⟩
  · cases hd
theorem rRange_good {t : TypeId} {x : Operand} (ho : o.op = .range t x) (hr : rRange P e n h lo t x = some r) : Good P o e n h lo r := by
  unfold rRange at hr
  split at hr
  · rename_i s hx
    split at hr
    · rename_i hd
      cases hr
      refine good_rangeStr ho ?_ hx
      cases hu : P.underlying t with
      | none => rw [hu] at hd; cases hd
      | some d => rw [hu] at hd; cases d <;> first | rfl | cases hd
    · cases hr
  · rename_i hx
    split at hr
    · rename_i hd; cases hr; obtain ⟨K, El, hu⟩ := isMapD_spec hd; exact good_rangeNil ho hu hx
    · cases hr
  · rename_i id hx
    split at hr
    · rename_i hd
      split at hr
      · rename_i es clk hb; cases hr; obtain ⟨K, El, hu⟩ := isMapD_spec hd; exact good_rangeMap ho hu hx hb
      · cases hr
    · cases hr
  · cases hr
theorem rNext_good {x : Operand} {s : Bool} (ho : o.op = .next x s) (hr : rNext e n h lo x s = some r) : Good P o e n h lo r := by
  unfold rNext at hr
  split at hr
  · rename_i id hx
    split at hr
    · rename_i st pos hb
      split at hr
      · split at hr
        · rename_i hp; cases hr; exact good_nextStr ho hx hb hp
        · rename_i hp; cases hr; exact good_nextStrEnd ho hx hb hp
      · cases hr
    · rename_i since seen st hb
      split at hr
      · cases hr
      · cases hr; exact good_nextNil ho hx hb
    · rename_i mid since seen st hb
      split at hr
      · cases hr
      · split at hr
        · rename_i es clk hm
          split at hr
          · rename_i hok
            split at hr
            · rename_i hl; cases hr; exact good_nextMapEnd ho hx hb hm hok hl
            · rename_i p hl; cases hr; exact good_nextMap ho hx hb hm hok hl
            · cases hr
          · cases hr
        · cases hr
    · cases hr
  · cases hr
theorem rMakeFunc_good {fn : Fn} {first caps : Array Operand} (ho : o.op = .makeFunc fn first caps) (hr : rMakeFunc e n h lo fn first caps = some r) : Good P o e n h lo r := by
  unfold rMakeFunc at hr
  split at hr
  · rename_i f hf
    have : first = #[] := by apply Array.toList_inj.1; simpa using hf
    subst this
    split at hr
    · rename_i cs hc; cases hr; exact good_makeFunc ho hc
    · cases hr
  · cases hr
theorem rMakeIface_good {t : TypeId} {x : Operand} (ho : o.op = .makeInterface t x) (hr : rMakeIface P e n h lo t x = some r) : Good P o e n h lo r := by
  unfold rMakeIface at hr
  split at hr
  · rename_i v hx
    split at hr
    · rename_i hd; cases hr; exact good_makeIface ho hx hd
    · cases hr
  · cases hr
theorem rLen_good {t : TypeId} {x : Operand} (ho : o.op = .call { callee := .builtin .len, args := #[x], argTypes := #[t] }) (hr : rLen P e n h lo o t x = some r) : Good P o e n h lo r := by
  unfold rLen at hr
  split at hr
  · rename_i v hx
    split at hr
    · rename_i hf
      split at hr
      · rename_i k hl; cases hr; exact good_len ho hx hf hl
      · cases hr
    · exact rGen_good hr
  · cases hr
theorem rConv_good {src dst : TypeId} {x : Operand} (ho : o.op = .convert src dst x) (hr : rConv P e n h lo o src dst x = some r) : Good P o e n h lo r := by
  unfold rConv at hr
  split at hr
  · rename_i id off len _ _ hx
    split at hr
    · rename_i el hs hd
      split at hr
      · rename_i he
        split at hr
        · rename_i cs more hb
          split at hr
          · rename_i ns hn
            split at hr
            · rename_i hl
              cases hr
              have := good_convBS (n := n) (lo := lo) ho hs hd he hx hb hn hl
              exact ⟨this.1, fun ι a w pre K Q hK => this.2 ι a w ⟨pre.heap, pre.env, pre.free⟩ K Q fun ι' u w' h1 => hK ι' u w' (nrm_rel h1)⟩
            · cases hr
          · cases hr
        · cases hr
      · cases hr
    · cases hr
  · rename_i s hx
    split at hr
    · rename_i u el hs hd
      split at hr
      · rename_i he; cases hr; exact good_convSB ho hs hd he hx
      · cases hr
    · exact rGen_good hr
  · exact rGen_good hr
  · cases hr
theorem rCap_good {t : TypeId} {x : Operand} (ho : o.op = .call { callee := .builtin .cap, args := #[x], argTypes := #[t] }) (hr : rCap P e n h lo o t x = some r) : Good P o e n h lo r := by
  unfold rCap at hr
  split at hr
  · rename_i id off len k c hx
    split at hr
    · rename_i hf; cases hr; exact good_cap ho hx hf
    · cases hr
  · cases hr
  · exact rGen_good hr
  · cases hr
theorem rAppend_good {t tx : TypeId} {x y : Operand} (TO : TabOk P tab) (ho : o.op = .call { callee := .builtin .append, args := #[x, y], argTypes := #[t, tx] }) (hr : rAppend P tab e n h lo t tx x y = some r) : Good P o e n h lo r := by
  unfold rAppend at hr
  split at hr
  · rename_i s v hx hy
    split at hr
    · rename_i te ht
      split at hr
      · rename_i el hs
        split at hr
        · rename_i te' hel
          split at hr
          · rename_i hc
            simp only [Bool.and_eq_true] at hc
            split at hr
            · rename_i q hq; exact good_append TO ho ht hs hel hc.1 hx hy hq hc.2 hr
            · cases hr
          · cases hr
        · cases hr
      · cases hr
    · cases hr
  · cases hr
theorem rCopy_good {t tx : TypeId} {x y : Operand} (TO : TabOk P tab) (ho : o.op = .call { callee := .builtin .copy, args := #[x, y], argTypes := #[t, tx] }) (hr : rCopy P tab e n h lo t tx x y = some r) : Good P o e n h lo r := by
  unfold rCopy at hr
  split at hr
  · rename_i id off len k cap v hx hy
    split at hr
    · rename_i te ht
      split at hr
      · rename_i el hs
        split at hr
        · rename_i te' hel
          split at hr
          · rename_i cs more hb
            split at hr
            · rename_i q hq
              split at hr
              · rename_i hc
                cases hr
                simp only [Bool.and_eq_true] at hc
                exact good_copy TO ho ht hs hel hc.1.1.1 hx hb hy hq hc.1.1.2 hc.1.2 hc.2
              · cases hr
            · cases hr
          · cases hr
        · cases hr
      · cases hr
    · cases hr
  · cases hr
theorem rDelete_good {t tk : TypeId} {x y : Operand} (TO : TabOk P tab) (ho : o.op = .call { callee := .builtin .delete, args := #[x, y], argTypes := #[t, tk] }) (hr : rDelete P tab e n h lo t x y = some r) : Good P o e n h lo r := by
  unfold rDelete at hr
  split at hr
  · rename_i id hx
    split at hr
    · rename_i te ht
      split at hr
      · rename_i K El hs
        split at hr
        · rename_i es clk hb
          split at hr
          · rename_i k hy
            split at hr
            · rename_i kv hk
              split at hr
              · rename_i q hp; cases hr; exact good_delete TO ho ht hs hx hb hy hk hp
              · cases hr
            · cases hr
          · cases hr
        · cases hr
      · cases hr
    · cases hr
  · cases hr

def Ends (ι : Io) (n : Nat) (h : Hp) (w : World) (r : V × Nat × Hp × Nat) : Ending → World → Prop := fun x w' => ∃ u ι', x = .returned u ∧ VRel ι' r.1 u ∧ HRel ι' r.2.2.1.get w' ∧ Ex n r.2.1 ι h.get w ι' r.2.2.1.get w'
def CallOk (P : Program) (call : FuncId → List V → Nat → Hp → Nat → R) : Prop := ∀ f args n h lo r, call f args n h lo = some r → Ab.isGo P f = true ∧ Syn n h lo r.2.1 r.2.2.1 r.2.2.2 ∧
  ∀ ι (us : Array Value) w, HRel ι h.get w → LRel ι args us.toList → Free ι n r.2.1 → Calls P f us w (Ends ι n h w r)
theorem good_call {call : FuncId → List V → Nat → Hp → Nat → R} (CO : CallOk P call) {c : Call} {f : Operand} {g : FuncId} {caps cs : List V} (ho : o.op = .call c) (hf : c.callee = .value f) (hx : ev e f = some (.fn g caps)) (ha : evs e c.args.toList = some cs) (hr : call g (cs ++ caps) n h lo = some r) : Good P o e n h lo r := by
  obtain ⟨h1, h2, h3⟩ := CO _ _ _ _ _ _ hr
  refine ⟨h2, fun ι a w pre K Q hK => ?_⟩
  have hv := ev_rel pre.env hx
  have hargs := evs_rel pre.env ha
  unfold Oper.wp
  generalize hau : a.eval f = u at hv
  cases hv with
  | fn _ _ C hl hh =>
    have hcs : LRel ι caps C.toList := ⟨by simpa using hl, fun i c u a b => hh i c u a (by simpa using b)⟩
    have hrun : (execOp a.eval o).run P w = .ok (.enter g (c.args.map a.eval ++ C)) w := by
      simp [execOp, ho, resolve, hf, hau, Deferred.ofValue, invoke, Ab.run_isGo h1]
    rw [hrun, Oper.upon_enter]
    refine (h3 ι (c.args.map a.eval ++ C) w pre.heap (by rw [Array.toList_append, Array.toList_map]; exact hargs.append hcs) pre.free).mono ?_
    rintro x w' ⟨u, ι', rfl, g1, g2, g3⟩
    exact hK ι' u w' g1 g2 g3
theorem arr1 {α : Type} {A : Array α} {x : α} (h : A.toList = [x]) : A = #[x] := by apply Array.toList_inj.1; simpa using h
theorem arr2 {α : Type} {A : Array α} {x y : α} (h : A.toList = [x, y]) : A = #[x, y] := by apply Array.toList_inj.1; simpa using h
theorem rCall_good {call : FuncId → List V → Nat → Hp → Nat → R} {known : FuncId → Bool} (TO : TabOk P tab) (CO : CallOk P call) {c : Call} (ho : o.op = .call c) (hr : rCall P tab e n h lo o call known c = some r) : Good P o e n h lo r := by
  obtain ⟨cal, args, ats⟩ := c
  unfold rCall at hr
  split at hr
  · rename_i b hb
    have hb : cal = .builtin b := hb
    subst hb
    dsimp only at hr
    split at hr
    · rename_i h1 h2; rw [arr1 h1, arr1 h2] at ho; exact rLen_good ho hr
    · rename_i h1 h2; rw [arr1 h1, arr1 h2] at ho; exact rCap_good ho hr
    · rename_i h1 h2; rw [arr2 h1, arr2 h2] at ho; exact rAppend_good TO ho hr
    · rename_i h1 h2; rw [arr2 h1, arr2 h2] at ho; exact rCopy_good TO ho hr
    · rename_i h1 h2; rw [arr2 h1, arr2 h2] at ho; exact rDelete_good TO ho hr
    · exact rGen_good hr
  · rename_i f hf
    split at hr
    · rename_i g caps hx
      split at hr
      · split at hr
        · rename_i cs ha; exact good_call CO ho hf hx ha hr
        · cases hr
      · exact rGen_good hr
    · cases hr
  · exact rGen_good hr
theorem rop_good {call : FuncId → List V → Nat → Hp → Nat → R} {known : FuncId → Bool} (TO : TabOk P tab) (CO : CallOk P call) (hr : rop P tab e n h lo o call known = some r) : Good P o e n h lo r := by
  unfold rop at hr
  split at hr
  · rename_i ho; exact rMove_good (.inl ho) hr
  · rename_i ho; exact rMove_good (.inr ho) hr
  · rename_i ho; exact rPick_good ho hr
  · rename_i ho; exact rExtract_good ho hr
  · rename_i ho; exact rField_good TO ho hr
  · rename_i ho; exact rNilCheck_good ho hr
  · rename_i ho; exact rBin_good ho hr
  · rename_i ho; exact rLoad_good TO ho hr
  · rename_i ho; exact rStore_good TO ho hr
  · rename_i ho; exact rFieldAddr_good TO ho hr
  · rename_i ho; exact rIndexAddr_good TO ho hr
  · rename_i ho; exact rIndex_good TO ho hr
  · rename_i ho; exact rAlloc_good TO ho hr
  · rename_i ho; exact rBox_good ho hr
  · rename_i ho; exact rBuild_good TO ho hr
  · rename_i ho; exact rBuildSlice_good TO ho hr
  · rename_i ho; exact rMakeSlice_good TO ho hr
  · rename_i ho; exact rSlice_good TO ho hr
  · rename_i ho; exact rLookup_good TO ho hr
  · rename_i ho; exact rMapUpdate_good TO (.inl ho) hr
  · rename_i ho; exact rMapUpdate_good TO (.inr ho) hr
  · rename_i ho; exact rMapEntry_good TO ho hr
  · rename_i ho; exact rEntryStore_good ho hr
  · rename_i ho; cases hr; exact good_makeMap ho
  · rename_i ho; exact rRange_good ho hr
  · rename_i ho; exact rNext_good ho hr
  · rename_i ho; exact rMakeFunc_good ho hr
  · rename_i ho; exact rMakeIface_good ho hr
  · rename_i ho; exact rConv_good ho hr
  · rename_i ho; exact rCall_good TO CO ho hr
  · exact rGen_good hr
end
end Go.Proofs.YtdbeblhifnfocaaGreatDoor.Rn

namespace Go.Proofs.YtdbeblhifnfocaaGreatDoor.Rn
open Go
set_option linter.unusedVariables false
theorem run_take {P : Program} {w : World} {r : Nat} (hr : w.heap[r]? = some (.deferred (some []))) : (Instr.takeDeferred r).run P w = .ok [] ({ w with heap := w.heap.setIfInBounds r (.deferred none) }) := by
  simp [Instr.takeDeferred, getObj, setObj, Sem.run, hr]
theorem leave_marks {P : Program} {F : Fence} {n : Nat} {fn : Func} {tmps : Array Value} {R : Ending → World → Prop} : ∀ (ds : List Deferred) (w : World), (∀ d ∈ ds, ∃ r, d = ({ target := .collected r, args := #[] } : Deferred) ∧ w.heap[r]? = some (.deferred (some []))) → ds.Pairwise (fun a b => a ≠ b) →
    (∀ w', w'.os = w.os → w'.tape = w.tape → w'.output = w.output → w'.heap.size = w.heap.size → (∀ r, (∀ d ∈ ds, d ≠ ({ target := .collected r, args := #[] } : Deferred)) → w'.heap[r]? = w.heap[r]?) → ∃ v, (results fn tmps).run P w' = .ok v w' ∧ R (.returned v) w') → LeavesInM F n P fn tmps R ds .returning w
  | [], w, _, _, h => by
    unfold LeavesInM LeavesIn
    exact h w rfl rfl rfl rfl fun _ _ => rfl
  | d :: ds, w, ha, hp, h => by
    obtain ⟨r, rfl, hr⟩ := ha d (by simp)
    obtain ⟨hp1, hp2⟩ := List.pairwise_cons.1 hp
    unfold LeavesInM
    have hput : ∀ q, q ≠ r → ({ w with heap := w.heap.setIfInBounds r (.deferred none) } : World).heap[q]? = w.heap[q]? := fun q hq => by simp [Array.getElem?_setIfInBounds_ne (Ne.symm hq)]
    refine ⟨by simp, .inl ⟨r, { w with heap := w.heap.setIfInBounds r (.deferred none) }, rfl, run_take hr, leave_marks ds _ (fun d hd => ?_) hp2 fun w' h1 h2 h3 h4 h5 => ?_⟩⟩
    · obtain ⟨q, rfl, hq⟩ := ha d (by simp [hd])
      refine ⟨q, rfl, ?_⟩
      rw [hput q (by rintro rfl; exact hp1 _ hd rfl)]
      exact hq
    · refine h w' h1 h2 h3 (h4.trans (by simp)) fun q hq => ?_
      rw [h5 q (fun d hd => hq d (by simp [hd])), hput q (by rintro rfl; exact hq _ (by simp) rfl)]
end Go.Proofs.YtdbeblhifnfocaaGreatDoor.Rn

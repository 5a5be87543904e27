/-
  A runner of closed code: a string out of bytes.
-/
import Derived.Test.YtplgpbadpdmeeaaRunRng
import Derived.Laws.BytesString
namespace Go.Proofs.Ytplgpbadpdmeeaa.Rn
set_option linter.unusedVariables false
open Go.RowKit
open Go.Proofs.Ytplgpbadpdmeeaa.Ab (TE TTab tlook TabOk TFacts win setW setW_get win_get Sh)

def u8s : List V → Option (List Int)
  | [] => some []
  | .sc (.int .u8 n) :: r => match u8s r with
    | some l => some (n :: l)
    | none => none
  | _ :: _ => none
theorem u8s_get : ∀ {l : List V} {ns : List Int}, u8s l = some ns → ∀ (j : Nat) (v : Value), (ns.map (Value.int .u8))[j]? = some v → l[j]? = some (.sc v)
  | [], ns, h, j, v, hj => by cases h; simp at hj
  | c :: l, ns, h, j, v, hj => by
    unfold u8s at h
    split at h
    · rename_i h1; cases h1
    · rename_i n r h1
      cases h1
      split at h
      · rename_i m hm
        cases h
        cases j with
        | zero => simp at hj ⊢; rw [hj]
        | succ j => simp at hj ⊢; exact u8s_get hm j v (by simpa using hj)
      · cases h
    · cases h
def strOf (ns : List Int) : ByteArray := ns.foldl (fun r n => r.push (UInt8.ofNat n.toNat)) ByteArray.empty
section
variable {P : Program} {e : Ev} {n : Nat} {h : Hp} {lo : Nat} {o : Oper}
theorem good_convBS {src dst el : TypeId} {x : Operand} {id off len k : Nat} {cap : Option Nat} {cs : List V} {more : Bool} {ns : List Int} (ho : o.op = .convert src dst x) (hs : P.underlying src = some (.slice el)) (hd : P.underlying dst = some .string) (he : P.underlying el = some (.int .u8)) (hx : ev e x = some (.sl id off len k cap))
    (hb : h.get id = some (.cells cs more)) (hn : u8s (win cs off len) = some ns) (hl : Nat.beq ns.length len = true) : Good P o e n h lo (.sc (.string (strOf ns)), n, h, lo) :=
  good_value fun ι a w H E => by
    refine ⟨.string (strOf ns), .sc _, ?_⟩
    obtain ⟨r, m, hi, C, tt, fz, hC, hfz, hsz, hle, hmo, hlr⟩ := H.blk id _ hb
    have hv := ev_rel E hx
    generalize hau : a.eval x = u at hv
    obtain ⟨c, rfl⟩ : ∃ c, u = .slice (some ⟨r, off, none⟩) len c := by
      cases hv with
      | sl _ _ _ _ c r' m' h' => rw [hi] at h'; cases h'; exact ⟨c, rfl⟩
      | slu _ _ _ _ c r' m' h' _ _ => rw [hi] at h'; cases h'; exact ⟨c, rfl⟩
    have hcell : ∀ (j : Nat) (v : Value), (ns.map (Value.int .u8))[j]? = some v → w.cell? (Addr.add ⟨r, off, none⟩ j) = some v := fun j v hj => by
      have h1 := win_get rfl (u8s_get hn j v hj)
      have hlt := (List.getElem?_eq_some_iff.1 h1).1
      obtain ⟨y, h2⟩ : ∃ y, (C.toList.take cs.length)[off + j]? = some y := ⟨_, List.getElem?_eq_getElem (by rw [hlr.1]; exact hlt)⟩
      have h3 := hlr.2 _ _ _ h1 h2
      have hy := tv_rel h3 v rfl
      subst hy
      rw [List.getElem?_take, if_pos hlt] at h2
      rw [Addr.add_mid]
      simp [World.cell?, hC]
      simpa using h2
    have hrun := run_loadCells_list (P := P) (w := w) ⟨r, off, none⟩ (ns.map (Value.int .u8)) hcell
    rw [List.length_map, Nat.eq_of_beq_eq_true hl] at hrun
    have h5 := run_bytesToString (P := P) w ⟨r, off, none⟩ len c ns hrun
    simp only [execOp, ho, hau]
    have h6 := run_convert_bytes_string (P := P) w src dst el (some ⟨r, off, none⟩) len c hs he hd
    rw [h5] at h6
    simp [h6, strOf]
end
end Go.Proofs.Ytplgpbadpdmeeaa.Rn

/-
  DERIVED. GIVEN WITH THE SEED: THE CARDS: each row of YtdbeblhifnfocaaGreatDoorRows.lean that lists a variable, with what it lists TIED to the program's text (the seventh form; the later family's looks); each row that meets fmt, with fmt's text TOLD by the authors' own Lean function (tested against real Go, not proved from fmt's source: count such statements apart). THE CARD IS WHAT COUNTS. Prove the row's statement (the work); the ties are given (YtdbeblhifnfocaaGreatDoorTie.lean); close each card by the builder's one call (the guide's Derived/Test/ToyasCard.lean, 'card_holds'). Laid BY PROGRAM, IN A SANDBOX (cutbox-door.mjs). By AI agents, Wed Nov 11 2026. No macro, syntax, notation, axiom, sorry.
-/
import Derived.Test.YtdbeblhifnfocaaGreatDoorRows
import GoSem.ClaimSeven
namespace Go.Proofs.YtdbeblhifnfocaaGreatDoor
namespace Rows

/-- THE TIED CARD OF 'waymarklaw17.TopoNils'. -/
def topoNilsCard : Claim7 := { stood := { row := topoNilsRow, standIns := [], harness := (true, "d804683a772db7fe920af44fa452e98d03aa4167db16ce27a2d6862b35242be2"), looks := false }, kinds := [], alts := [], laidByText := true, laidKinds := [.data, .data, .data], laidTests := true, laidLooks := .later }
def TopoNilsCardSaid : Prop := Claim7.holds Tryz.pinned (.plain (OpenSpec.ofChange topoNilsSpec)) topoNilsCard

/-- THE SECOND FORM's CARD OF 'waymarklaw17.TopoNils'. -/
def topoNilsUptoCard : Claim7 := { stood := { row := topoNilsUptoRow, standIns := [], harness := (true, "d804683a772db7fe920af44fa452e98d03aa4167db16ce27a2d6862b35242be2"), looks := false }, kinds := [], alts := [], laidByText := true, laidKinds := [.data, .data, .data], laidTests := true, laidLooks := .later }
def TopoNilsUptoCardSaid : Prop := Claim7.holds Tryz.pinned (.plain (OpenSpec.upto topoNilsSpec)) topoNilsUptoCard
end Rows
end Go.Proofs.YtdbeblhifnfocaaGreatDoor

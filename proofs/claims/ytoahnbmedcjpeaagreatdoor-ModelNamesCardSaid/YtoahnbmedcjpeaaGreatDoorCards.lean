/-
  DERIVED. GIVEN WITH THE SEED: THE CARDS: each row of YtoahnbmedcjpeaaGreatDoorRows.lean that lists a variable, with what it lists TIED to the program's text (the seventh form; the later family's looks); each row that meets fmt, with fmt's text TOLD by the authors' own Lean function (tested against real Go, not proved from fmt's source: count such statements apart). THE CARD IS WHAT COUNTS. Prove the row's statement (the work); the ties are given (YtoahnbmedcjpeaaGreatDoorTie.lean); close each card by the builder's one call (the guide's Derived/Test/ToyasCard.lean, 'card_holds'). Laid BY PROGRAM, IN A SANDBOX (cutbox-door.mjs). By AI agents, Wed Nov 11 2026. No macro, syntax, notation, axiom, sorry.
-/
import Derived.Test.YtoahnbmedcjpeaaGreatDoorRows
import GoSem.ClaimSeven
namespace Go.Proofs.YtoahnbmedcjpeaaGreatDoor
namespace Rows

/-- THE TIED CARD OF 'waymarklaw12.ModelNames'. -/
def modelNamesCard : Claim7 := { stood := { row := modelNamesRow, standIns := [], harness := (true, "9ad6edc9d5ebf23cfe68fb3c5a85cad0f5cb40a04e324d5d387ec4867796eb8a"), looks := false }, kinds := [], alts := [], laidByText := true, laidKinds := [.data, .data, .data], laidTests := true, laidLooks := .later }
def ModelNamesCardSaid : Prop := Claim7.holds Tryz.pinned (.plain (OpenSpec.ofChange modelNamesSpec)) modelNamesCard

/-- THE TIED CARD OF 'waymarklaw12.ModelOrder'. -/
def modelOrderCard : Claim7 := { stood := { row := modelOrderRow, standIns := [], harness := (true, "9ad6edc9d5ebf23cfe68fb3c5a85cad0f5cb40a04e324d5d387ec4867796eb8a"), looks := false }, kinds := [], alts := [], laidByText := true, laidKinds := [.data, .data, .data], laidTests := true, laidLooks := .later }
def ModelOrderCardSaid : Prop := Claim7.holds Tryz.pinned (.plain (OpenSpec.ofChange modelOrderSpec)) modelOrderCard

/-- THE TIED CARD OF 'waymarklaw12.ModelSnapshots'. -/
def modelSnapshotsCard : Claim7 := { stood := { row := modelSnapshotsRow, standIns := [], harness := (true, "9ad6edc9d5ebf23cfe68fb3c5a85cad0f5cb40a04e324d5d387ec4867796eb8a"), looks := false }, kinds := [], alts := [], laidByText := true, laidKinds := [.data, .data, .data], laidTests := true, laidLooks := .later }
def ModelSnapshotsCardSaid : Prop := Claim7.holds Tryz.pinned (.plain (OpenSpec.ofChange modelSnapshotsSpec)) modelSnapshotsCard

/-- THE TIED CARD OF 'waymarklaw12.ModelChecks'. -/
def modelChecksCard : Claim7 := { stood := { row := modelChecksRow, standIns := [], harness := (true, "9ad6edc9d5ebf23cfe68fb3c5a85cad0f5cb40a04e324d5d387ec4867796eb8a"), looks := false }, kinds := [], alts := [], laidByText := true, laidKinds := [.data, .data, .data], laidTests := true, laidLooks := .later }
def ModelChecksCardSaid : Prop := Claim7.holds Tryz.pinned (.plain (OpenSpec.ofChange modelChecksSpec)) modelChecksCard

/-- THE TIED CARD OF 'waymarklaw12.ModelForm'. -/
def modelFormCard : Claim7 := { stood := { row := modelFormRow, standIns := [], harness := (true, "9ad6edc9d5ebf23cfe68fb3c5a85cad0f5cb40a04e324d5d387ec4867796eb8a"), looks := false }, kinds := [], alts := [], laidByText := true, laidKinds := [.data, .data, .data], laidTests := true, laidLooks := .later }
def ModelFormCardSaid : Prop := Claim7.holds Tryz.pinned (.plain (OpenSpec.ofChange modelFormSpec)) modelFormCard

/-- THE SECOND FORM's CARD OF 'waymarklaw12.ModelNames'. -/
def modelNamesUptoCard : Claim7 := { stood := { row := modelNamesUptoRow, standIns := [], harness := (true, "9ad6edc9d5ebf23cfe68fb3c5a85cad0f5cb40a04e324d5d387ec4867796eb8a"), looks := false }, kinds := [], alts := [], laidByText := true, laidKinds := [.data, .data, .data], laidTests := true, laidLooks := .later }
def ModelNamesUptoCardSaid : Prop := Claim7.holds Tryz.pinned (.plain (OpenSpec.upto modelNamesSpec)) modelNamesUptoCard

/-- THE SECOND FORM's CARD OF 'waymarklaw12.ModelOrder'. -/
def modelOrderUptoCard : Claim7 := { stood := { row := modelOrderUptoRow, standIns := [], harness := (true, "9ad6edc9d5ebf23cfe68fb3c5a85cad0f5cb40a04e324d5d387ec4867796eb8a"), looks := false }, kinds := [], alts := [], laidByText := true, laidKinds := [.data, .data, .data], laidTests := true, laidLooks := .later }
def ModelOrderUptoCardSaid : Prop := Claim7.holds Tryz.pinned (.plain (OpenSpec.upto modelOrderSpec)) modelOrderUptoCard

/-- THE SECOND FORM's CARD OF 'waymarklaw12.ModelSnapshots'. -/
def modelSnapshotsUptoCard : Claim7 := { stood := { row := modelSnapshotsUptoRow, standIns := [], harness := (true, "9ad6edc9d5ebf23cfe68fb3c5a85cad0f5cb40a04e324d5d387ec4867796eb8a"), looks := false }, kinds := [], alts := [], laidByText := true, laidKinds := [.data, .data, .data], laidTests := true, laidLooks := .later }
def ModelSnapshotsUptoCardSaid : Prop := Claim7.holds Tryz.pinned (.plain (OpenSpec.upto modelSnapshotsSpec)) modelSnapshotsUptoCard

/-- THE SECOND FORM's CARD OF 'waymarklaw12.ModelChecks'. -/
def modelChecksUptoCard : Claim7 := { stood := { row := modelChecksUptoRow, standIns := [], harness := (true, "9ad6edc9d5ebf23cfe68fb3c5a85cad0f5cb40a04e324d5d387ec4867796eb8a"), looks := false }, kinds := [], alts := [], laidByText := true, laidKinds := [.data, .data, .data], laidTests := true, laidLooks := .later }
def ModelChecksUptoCardSaid : Prop := Claim7.holds Tryz.pinned (.plain (OpenSpec.upto modelChecksSpec)) modelChecksUptoCard

/-- THE SECOND FORM's CARD OF 'waymarklaw12.ModelForm'. -/
def modelFormUptoCard : Claim7 := { stood := { row := modelFormUptoRow, standIns := [], harness := (true, "9ad6edc9d5ebf23cfe68fb3c5a85cad0f5cb40a04e324d5d387ec4867796eb8a"), looks := false }, kinds := [], alts := [], laidByText := true, laidKinds := [.data, .data, .data], laidTests := true, laidLooks := .later }
def ModelFormUptoCardSaid : Prop := Claim7.holds Tryz.pinned (.plain (OpenSpec.upto modelFormSpec)) modelFormUptoCard
end Rows
end Go.Proofs.YtoahnbmedcjpeaaGreatDoor

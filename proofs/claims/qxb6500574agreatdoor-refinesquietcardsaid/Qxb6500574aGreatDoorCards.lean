/-
  DERIVED. GIVEN WITH THE SEED: THE CARDS: each row of Qxb6500574aGreatDoorRows.lean that lists a variable, with what it lists TIED to the program's text (the seventh form; the later family's looks); each row that meets fmt, with fmt's text TOLD by the authors' own Lean function (tested against real Go, not proved from fmt's source: count such statements apart). THE CARD IS WHAT COUNTS. Prove the row's statement (the work); the ties are given (Qxb6500574aGreatDoorTie.lean); close each card by the builder's one call (the guide's Derived/Test/ToyasCard.lean, 'card_holds'). Laid BY PROGRAM, IN A SANDBOX (cutbox-door.mjs). By AI agents, Wed Nov 11 2026. No macro, syntax, notation, axiom, sorry.
-/
import Derived.Test.Qxb6500574aGreatDoorRows
import GoSem.ClaimSeven
namespace Go.Proofs.Qxb6500574aGreatDoor
namespace Rows

/-- THE TIED CARD OF 'complaw.Keeps'. -/
def keepsCard : Claim7 := { stood := { row := keepsRow, standIns := [], harness := (true, "59f44c0c18f90f29dc9a21f24d37b0bd2eda79666d0f1580c6217fcd071beceb"), looks := true }, kinds := [], alts := [], laidByText := true, laidKinds := [.data, .data, .data], laidTests := true, laidLooks := .later }
def KeepsCardSaid : Prop := Claim7.holds Tryz.pinned (.plain (OpenSpec.ofChange keepsSpec)) keepsCard

/-- THE TIED CARD OF 'complaw.Refines'. -/
def refinesCard : Claim7 := { stood := { row := refinesRow, standIns := [], harness := (true, "59f44c0c18f90f29dc9a21f24d37b0bd2eda79666d0f1580c6217fcd071beceb"), looks := true }, kinds := [], alts := [], laidByText := true, laidKinds := [.data, .data, .data], laidTests := true, laidLooks := .later }
def RefinesCardSaid : Prop := Claim7.holds Tryz.pinned (.plain (OpenSpec.ofChange refinesSpec)) refinesCard

/-- THE TIED CARD OF 'complaw.RefinesQuiet'. -/
def refinesQuietCard : Claim7 := { stood := { row := refinesQuietRow, standIns := [], harness := (true, "59f44c0c18f90f29dc9a21f24d37b0bd2eda79666d0f1580c6217fcd071beceb"), looks := true }, kinds := [], alts := [], laidByText := true, laidKinds := [.data, .data, .data], laidTests := true, laidLooks := .later }
def RefinesQuietCardSaid : Prop := Claim7.holds Tryz.pinned (.plain (OpenSpec.ofChange refinesQuietSpec)) refinesQuietCard
end Rows
end Go.Proofs.Qxb6500574aGreatDoor

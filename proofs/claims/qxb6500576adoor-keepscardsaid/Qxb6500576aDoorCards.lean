/-
  DERIVED. GIVEN WITH THE SEED: THE CARDS: each row of Qxb6500576aDoorRows.lean that lists a variable, with what it lists TIED to the program's text (the seventh form; the later family's looks); each row that meets fmt, with fmt's text TOLD by the authors' own Lean function (tested against real Go, not proved from fmt's source: count such statements apart). THE CARD IS WHAT COUNTS. Prove the row's statement (the work); the ties are given (Qxb6500576aDoorTie.lean); close each card by the builder's one call (the guide's Derived/Test/ToyasCard.lean, 'card_holds'). Laid BY PROGRAM, IN A SANDBOX (cutbox-door.mjs). By AI agents, Wed Nov 11 2026. No macro, syntax, notation, axiom, sorry.
-/
import Derived.Test.Qxb6500576aDoorRows
import GoSem.ClaimSeven
namespace Go.Proofs.Qxb6500576aDoor
namespace Rows

/-- THE TIED CARD OF 'preplaw.Keeps'. -/
def keepsCard : Claim7 := { stood := { row := keepsRow, standIns := [], harness := (true, "f9b166eb19e75879093b54eaec9b34670a59b251c8834937e2edf6d7d0ca68e7"), looks := true }, kinds := [], alts := [], laidByText := true, laidKinds := [.handle], laidTests := true, laidLooks := .later }
def KeepsCardSaid : Prop := Claim7.holds Tryd.pinned (.plain (OpenSpec.ofChange keepsSpec)) keepsCard

/-- THE TIED CARD OF 'preplaw.EdgeTableReady'. -/
def edgeTableReadyCard : Claim7 := { stood := { row := edgeTableReadyRow, standIns := [], harness := (true, "f9b166eb19e75879093b54eaec9b34670a59b251c8834937e2edf6d7d0ca68e7"), looks := true }, kinds := [], alts := [], laidByText := true, laidKinds := [.handle], laidTests := true, laidLooks := .later }
def EdgeTableReadyCardSaid : Prop := Claim7.holds Tryd.pinned (.plain (OpenSpec.ofChange edgeTableReadySpec)) edgeTableReadyCard
end Rows
end Go.Proofs.Qxb6500576aDoor

/-
  DERIVED. GIVEN WITH THE SEED: THE CARDS: each row of YtmaaloijdjnblaaGreatDoorRows.lean that lists a variable, with what it lists TIED to the program's text (the seventh form; the later family's looks); each row that meets fmt, with fmt's text TOLD by the authors' own Lean function (tested against real Go, not proved from fmt's source: count such statements apart). THE CARD IS WHAT COUNTS. Prove the row's statement (the work); the ties are given (YtmaaloijdjnblaaGreatDoorTie.lean); close each card by the builder's one call (the guide's Derived/Test/ToyasCard.lean, 'card_holds'). Laid BY PROGRAM, IN A SANDBOX (cutbox-door.mjs). By AI agents, Wed Nov 11 2026. No macro, syntax, notation, axiom, sorry.
-/
import Derived.Test.YtmaaloijdjnblaaGreatDoorRows
import GoSem.ClaimSeven
namespace Go.Proofs.YtmaaloijdjnblaaGreatDoor
namespace Rows

/-- THE TIED CARD OF 'laws.FnExactPlanarIn'. -/
def fnExactPlanarInCard : Claim7 := { stood := { row := fnExactPlanarInRow, standIns := [], harness := (true, "7a0005b9af923533363d07ee0ee32ef3f366470c0c2369a5171eddff2715be45"), looks := false }, kinds := [], alts := [], laidByText := true, laidKinds := [.data], laidTests := true, laidLooks := .later }
def FnExactPlanarInCardSaid : Prop := Claim7.holds Tryz.pinned (.plain (OpenSpec.ofChange fnExactPlanarInSpec)) fnExactPlanarInCard

/-- THE SECOND FORM's CARD OF 'laws.FnExactPlanarIn'. -/
def fnExactPlanarInUptoCard : Claim7 := { stood := { row := fnExactPlanarInUptoRow, standIns := [], harness := (true, "7a0005b9af923533363d07ee0ee32ef3f366470c0c2369a5171eddff2715be45"), looks := false }, kinds := [], alts := [], laidByText := true, laidKinds := [.data], laidTests := true, laidLooks := .later }
def FnExactPlanarInUptoCardSaid : Prop := Claim7.holds Tryz.pinned (.plain (OpenSpec.upto fnExactPlanarInSpec)) fnExactPlanarInUptoCard
end Rows
end Go.Proofs.YtmaaloijdjnblaaGreatDoor

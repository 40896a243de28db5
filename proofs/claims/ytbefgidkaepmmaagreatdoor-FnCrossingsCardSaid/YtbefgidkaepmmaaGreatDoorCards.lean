/-
  DERIVED. GIVEN WITH THE SEED: THE CARDS: each row of YtbefgidkaepmmaaGreatDoorRows.lean that lists a variable, with what it lists TIED to the program's text (the seventh form; the later family's looks); each row that meets fmt, with fmt's text TOLD by the authors' own Lean function (tested against real Go, not proved from fmt's source: count such statements apart). THE CARD IS WHAT COUNTS. Prove the row's statement (the work); the ties are given (YtbefgidkaepmmaaGreatDoorTie.lean); close each card by the builder's one call (the guide's Derived/Test/ToyasCard.lean, 'card_holds'). Laid BY PROGRAM, IN A SANDBOX (cutbox-door.mjs). By AI agents, Wed Nov 11 2026. No macro, syntax, notation, axiom, sorry.
-/
import Derived.Test.YtbefgidkaepmmaaGreatDoorRows
import GoSem.ClaimSeven
namespace Go.Proofs.YtbefgidkaepmmaaGreatDoor
namespace Rows

/-- THE TIED CARD OF 'laws.FnCrossings'. -/
def fnCrossingsCard : Claim7 := { stood := { row := fnCrossingsRow, standIns := [], harness := (true, "5bca6a8350baac0551ccab83046098d439ad955962973155ffa1c2a399f555b1"), looks := false }, kinds := [], alts := [], laidByText := true, laidKinds := [.data], laidTests := true, laidLooks := .later }
def FnCrossingsCardSaid : Prop := Claim7.holds Tryz.pinned (.plain (OpenSpec.ofChange fnCrossingsSpec)) fnCrossingsCard

/-- THE SECOND FORM's CARD OF 'laws.FnCrossings'. -/
def fnCrossingsUptoCard : Claim7 := { stood := { row := fnCrossingsUptoRow, standIns := [], harness := (true, "5bca6a8350baac0551ccab83046098d439ad955962973155ffa1c2a399f555b1"), looks := false }, kinds := [], alts := [], laidByText := true, laidKinds := [.data], laidTests := true, laidLooks := .later }
def FnCrossingsUptoCardSaid : Prop := Claim7.holds Tryz.pinned (.plain (OpenSpec.upto fnCrossingsSpec)) fnCrossingsUptoCard
end Rows
end Go.Proofs.YtbefgidkaepmmaaGreatDoor

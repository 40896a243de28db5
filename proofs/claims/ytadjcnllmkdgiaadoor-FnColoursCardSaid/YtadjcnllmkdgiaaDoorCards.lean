/-
  DERIVED. GIVEN WITH THE SEED: THE CARDS: each row of YtadjcnllmkdgiaaDoorRows.lean that lists a variable, with what it lists TIED to the program's text (the seventh form; the later family's looks); each row that meets fmt, with fmt's text TOLD by the authors' own Lean function (tested against real Go, not proved from fmt's source: count such statements apart). THE CARD IS WHAT COUNTS. Prove the row's statement (the work); the ties are given (YtadjcnllmkdgiaaDoorTie.lean); close each card by the builder's one call (the guide's Derived/Test/ToyasCard.lean, 'card_holds'). Laid BY PROGRAM, IN A SANDBOX (cutbox-door.mjs). By AI agents, Wed Nov 11 2026. No macro, syntax, notation, axiom, sorry.
-/
import Derived.Test.YtadjcnllmkdgiaaDoorRows
import GoSem.ClaimSeven
namespace Go.Proofs.YtadjcnllmkdgiaaDoor
namespace Rows

/-- THE TIED CARD OF 'laws.FnColours'. -/
def fnColoursCard : Claim7 := { stood := { row := fnColoursRow, standIns := [], harness := (true, "d19e7a2494fc16f479a90f17fc6c6f03f3b534b554d753f05069f8c4d6c3b6ca"), looks := false }, kinds := [], alts := [], laidByText := true, laidKinds := [.data], laidTests := true, laidLooks := .later }
def FnColoursCardSaid : Prop := Claim7.holds Tryd.pinned (.plain (OpenSpec.ofChange fnColoursSpec)) fnColoursCard

/-- THE TIED CARD OF 'laws.FnMatchings'. -/
def fnMatchingsCard : Claim7 := { stood := { row := fnMatchingsRow, standIns := [], harness := (true, "d19e7a2494fc16f479a90f17fc6c6f03f3b534b554d753f05069f8c4d6c3b6ca"), looks := false }, kinds := [], alts := [], laidByText := true, laidKinds := [.data], laidTests := true, laidLooks := .later }
def FnMatchingsCardSaid : Prop := Claim7.holds Tryd.pinned (.plain (OpenSpec.ofChange fnMatchingsSpec)) fnMatchingsCard

/-- THE SECOND FORM's CARD OF 'laws.FnColours'. -/
def fnColoursUptoCard : Claim7 := { stood := { row := fnColoursUptoRow, standIns := [], harness := (true, "d19e7a2494fc16f479a90f17fc6c6f03f3b534b554d753f05069f8c4d6c3b6ca"), looks := false }, kinds := [], alts := [], laidByText := true, laidKinds := [.data], laidTests := true, laidLooks := .later }
def FnColoursUptoCardSaid : Prop := Claim7.holds Tryd.pinned (.plain (OpenSpec.upto fnColoursSpec)) fnColoursUptoCard

/-- THE SECOND FORM's CARD OF 'laws.FnMatchings'. -/
def fnMatchingsUptoCard : Claim7 := { stood := { row := fnMatchingsUptoRow, standIns := [], harness := (true, "d19e7a2494fc16f479a90f17fc6c6f03f3b534b554d753f05069f8c4d6c3b6ca"), looks := false }, kinds := [], alts := [], laidByText := true, laidKinds := [.data], laidTests := true, laidLooks := .later }
def FnMatchingsUptoCardSaid : Prop := Claim7.holds Tryd.pinned (.plain (OpenSpec.upto fnMatchingsSpec)) fnMatchingsUptoCard
end Rows
end Go.Proofs.YtadjcnllmkdgiaaDoor

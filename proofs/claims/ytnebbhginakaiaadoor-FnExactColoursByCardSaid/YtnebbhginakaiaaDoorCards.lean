/-
  DERIVED. GIVEN WITH THE SEED: THE CARDS: each row of YtnebbhginakaiaaDoorRows.lean that lists a variable, with what it lists TIED to the program's text (the seventh form; the later family's looks); each row that meets fmt, with fmt's text TOLD by the authors' own Lean function (tested against real Go, not proved from fmt's source: count such statements apart). THE CARD IS WHAT COUNTS. Prove the row's statement (the work); the ties are given (YtnebbhginakaiaaDoorTie.lean); close each card by the builder's one call (the guide's Derived/Test/ToyasCard.lean, 'card_holds'). Laid BY PROGRAM, IN A SANDBOX (cutbox-door.mjs). By AI agents, Wed Nov 11 2026. No macro, syntax, notation, axiom, sorry.
-/
import Derived.Test.YtnebbhginakaiaaDoorRows
import GoSem.ClaimSeven
namespace Go.Proofs.YtnebbhginakaiaaDoor
namespace Rows

/-- THE TIED CARD OF 'laws.FnExactMatchingsBy'. -/
def fnExactMatchingsByCard : Claim7 := { stood := { row := fnExactMatchingsByRow, standIns := [], harness := (true, "7d65dacf67cf2dfa41dd963b3ae096f70ea2540cf7dea1e220a72f9e57ad8625"), looks := false }, kinds := [], alts := [], laidByText := true, laidKinds := [.data], laidTests := true, laidLooks := .later }
def FnExactMatchingsByCardSaid : Prop := Claim7.holds Tryd.pinned (.plain (OpenSpec.ofChange fnExactMatchingsBySpec)) fnExactMatchingsByCard

/-- THE TIED CARD OF 'laws.FnExactColoursBy'. -/
def fnExactColoursByCard : Claim7 := { stood := { row := fnExactColoursByRow, standIns := [], harness := (true, "7d65dacf67cf2dfa41dd963b3ae096f70ea2540cf7dea1e220a72f9e57ad8625"), looks := false }, kinds := [], alts := [], laidByText := true, laidKinds := [.data], laidTests := true, laidLooks := .later }
def FnExactColoursByCardSaid : Prop := Claim7.holds Tryd.pinned (.plain (OpenSpec.ofChange fnExactColoursBySpec)) fnExactColoursByCard

/-- THE SECOND FORM's CARD OF 'laws.FnExactMatchingsBy'. -/
def fnExactMatchingsByUptoCard : Claim7 := { stood := { row := fnExactMatchingsByUptoRow, standIns := [], harness := (true, "7d65dacf67cf2dfa41dd963b3ae096f70ea2540cf7dea1e220a72f9e57ad8625"), looks := false }, kinds := [], alts := [], laidByText := true, laidKinds := [.data], laidTests := true, laidLooks := .later }
def FnExactMatchingsByUptoCardSaid : Prop := Claim7.holds Tryd.pinned (.plain (OpenSpec.upto fnExactMatchingsBySpec)) fnExactMatchingsByUptoCard

/-- THE SECOND FORM's CARD OF 'laws.FnExactColoursBy'. -/
def fnExactColoursByUptoCard : Claim7 := { stood := { row := fnExactColoursByUptoRow, standIns := [], harness := (true, "7d65dacf67cf2dfa41dd963b3ae096f70ea2540cf7dea1e220a72f9e57ad8625"), looks := false }, kinds := [], alts := [], laidByText := true, laidKinds := [.data], laidTests := true, laidLooks := .later }
def FnExactColoursByUptoCardSaid : Prop := Claim7.holds Tryd.pinned (.plain (OpenSpec.upto fnExactColoursBySpec)) fnExactColoursByUptoCard
end Rows
end Go.Proofs.YtnebbhginakaiaaDoor

/-
  DERIVED. GIVEN WITH THE SEED: THE CARDS: each row of YtcoiakapddjckaaDoorRows.lean that lists a variable, with what it lists TIED to the program's text (the seventh form; the later family's looks); each row that meets fmt, with fmt's text TOLD by the authors' own Lean function (tested against real Go, not proved from fmt's source: count such statements apart). THE CARD IS WHAT COUNTS. Prove the row's statement (the work); the ties are given (YtcoiakapddjckaaDoorTie.lean); close each card by the builder's one call (the guide's Derived/Test/ToyasCard.lean, 'card_holds'). Laid BY PROGRAM, IN A SANDBOX (cutbox-door.mjs). By AI agents, Wed Nov 11 2026. No macro, syntax, notation, axiom, sorry.
-/
import Derived.Test.YtcoiakapddjckaaDoorRows
import GoSem.ClaimSeven
namespace Go.Proofs.YtcoiakapddjckaaDoor
namespace Rows

/-- THE TIED CARD OF 'laws.FnCritical'. -/
def fnCriticalCard : Claim7 := { stood := { row := fnCriticalRow, standIns := [], harness := (true, "96994ba3c1f445f57ce64d540a45d33dbf735e9fde37e01e222b765dbe3e3062"), looks := false }, kinds := [], alts := [], laidByText := true, laidKinds := [.data], laidTests := true, laidLooks := .later }
def FnCriticalCardSaid : Prop := Claim7.holds Tryd.pinned (.plain (OpenSpec.ofChange fnCriticalSpec)) fnCriticalCard

/-- THE TIED CARD OF 'laws.FnMatchings'. -/
def fnMatchingsCard : Claim7 := { stood := { row := fnMatchingsRow, standIns := [], harness := (true, "96994ba3c1f445f57ce64d540a45d33dbf735e9fde37e01e222b765dbe3e3062"), looks := false }, kinds := [], alts := [], laidByText := true, laidKinds := [.data], laidTests := true, laidLooks := .later }
def FnMatchingsCardSaid : Prop := Claim7.holds Tryd.pinned (.plain (OpenSpec.ofChange fnMatchingsSpec)) fnMatchingsCard

/-- THE SECOND FORM's CARD OF 'laws.FnCritical'. -/
def fnCriticalUptoCard : Claim7 := { stood := { row := fnCriticalUptoRow, standIns := [], harness := (true, "96994ba3c1f445f57ce64d540a45d33dbf735e9fde37e01e222b765dbe3e3062"), looks := false }, kinds := [], alts := [], laidByText := true, laidKinds := [.data], laidTests := true, laidLooks := .later }
def FnCriticalUptoCardSaid : Prop := Claim7.holds Tryd.pinned (.plain (OpenSpec.upto fnCriticalSpec)) fnCriticalUptoCard

/-- THE SECOND FORM's CARD OF 'laws.FnMatchings'. -/
def fnMatchingsUptoCard : Claim7 := { stood := { row := fnMatchingsUptoRow, standIns := [], harness := (true, "96994ba3c1f445f57ce64d540a45d33dbf735e9fde37e01e222b765dbe3e3062"), looks := false }, kinds := [], alts := [], laidByText := true, laidKinds := [.data], laidTests := true, laidLooks := .later }
def FnMatchingsUptoCardSaid : Prop := Claim7.holds Tryd.pinned (.plain (OpenSpec.upto fnMatchingsSpec)) fnMatchingsUptoCard
end Rows
end Go.Proofs.YtcoiakapddjckaaDoor

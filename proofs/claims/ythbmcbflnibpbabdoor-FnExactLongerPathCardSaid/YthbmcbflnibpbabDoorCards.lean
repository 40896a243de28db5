/-
  DERIVED. GIVEN WITH THE SEED: THE CARDS: each row of YthbmcbflnibpbabDoorRows.lean that lists a variable, with what it lists TIED to the program's text (the seventh form; the later family's looks); each row that meets fmt, with fmt's text TOLD by the authors' own Lean function (tested against real Go, not proved from fmt's source: count such statements apart). THE CARD IS WHAT COUNTS. Prove the row's statement (the work); the ties are given (YthbmcbflnibpbabDoorTie.lean); close each card by the builder's one call (the guide's Derived/Test/ToyasCard.lean, 'card_holds'). Laid BY PROGRAM, IN A SANDBOX (cutbox-door.mjs). By AI agents, Wed Nov 11 2026. No macro, syntax, notation, axiom, sorry.
-/
import Derived.Test.YthbmcbflnibpbabDoorRows
import GoSem.ClaimSeven
namespace Go.Proofs.YthbmcbflnibpbabDoor
namespace Rows

/-- THE TIED CARD OF 'laws.FnExactFullPath'. -/
def fnExactFullPathCard : Claim7 := { stood := { row := fnExactFullPathRow, standIns := [], harness := (true, "728f73c8f9f786ff6085efc6019269f5d1b9e009582268c277d02a469510ac80"), looks := false }, kinds := [], alts := [], laidByText := true, laidKinds := [.data], laidTests := true, laidLooks := .later }
def FnExactFullPathCardSaid : Prop := Claim7.holds Tryd.pinned (.plain (OpenSpec.ofChange fnExactFullPathSpec)) fnExactFullPathCard

/-- THE TIED CARD OF 'laws.FnExactLongerPath'. -/
def fnExactLongerPathCard : Claim7 := { stood := { row := fnExactLongerPathRow, standIns := [], harness := (true, "728f73c8f9f786ff6085efc6019269f5d1b9e009582268c277d02a469510ac80"), looks := false }, kinds := [], alts := [], laidByText := true, laidKinds := [.data], laidTests := true, laidLooks := .later }
def FnExactLongerPathCardSaid : Prop := Claim7.holds Tryd.pinned (.plain (OpenSpec.ofChange fnExactLongerPathSpec)) fnExactLongerPathCard

/-- THE SECOND FORM's CARD OF 'laws.FnExactFullPath'. -/
def fnExactFullPathUptoCard : Claim7 := { stood := { row := fnExactFullPathUptoRow, standIns := [], harness := (true, "728f73c8f9f786ff6085efc6019269f5d1b9e009582268c277d02a469510ac80"), looks := false }, kinds := [], alts := [], laidByText := true, laidKinds := [.data], laidTests := true, laidLooks := .later }
def FnExactFullPathUptoCardSaid : Prop := Claim7.holds Tryd.pinned (.plain (OpenSpec.upto fnExactFullPathSpec)) fnExactFullPathUptoCard

/-- THE SECOND FORM's CARD OF 'laws.FnExactLongerPath'. -/
def fnExactLongerPathUptoCard : Claim7 := { stood := { row := fnExactLongerPathUptoRow, standIns := [], harness := (true, "728f73c8f9f786ff6085efc6019269f5d1b9e009582268c277d02a469510ac80"), looks := false }, kinds := [], alts := [], laidByText := true, laidKinds := [.data], laidTests := true, laidLooks := .later }
def FnExactLongerPathUptoCardSaid : Prop := Claim7.holds Tryd.pinned (.plain (OpenSpec.upto fnExactLongerPathSpec)) fnExactLongerPathUptoCard
end Rows
end Go.Proofs.YthbmcbflnibpbabDoor

/-
  DERIVED. GIVEN WITH THE SEED: THE CARDS: each row of YteblmlgidgpeaaaDoorRows.lean that lists a variable, with what it lists TIED to the program's text (the seventh form; the later family's looks); each row that meets fmt, with fmt's text TOLD by the authors' own Lean function (tested against real Go, not proved from fmt's source: count such statements apart). THE CARD IS WHAT COUNTS. Prove the row's statement (the work); the ties are given (YteblmlgidgpeaaaDoorTie.lean); close each card by the builder's one call (the guide's Derived/Test/ToyasCard.lean, 'card_holds'). Laid BY PROGRAM, IN A SANDBOX (cutbox-door.mjs). By AI agents, Wed Nov 11 2026. No macro, syntax, notation, axiom, sorry.
-/
import Derived.Test.YteblmlgidgpeaaaDoorRows
import GoSem.ClaimSeven
namespace Go.Proofs.YteblmlgidgpeaaaDoor
namespace Rows

/-- THE TIED CARD OF 'laws.FnExactDecompOk'. -/
def fnExactDecompOkCard : Claim7 := { stood := { row := fnExactDecompOkRow, standIns := [], harness := (true, "a06d5e616d7f9bc7e5ee63a5bac2606de4d7310f81f5eaf37b37d0da95eb67b0"), looks := false }, kinds := [], alts := [], laidByText := true, laidKinds := [.data], laidTests := true, laidLooks := .later }
def FnExactDecompOkCardSaid : Prop := Claim7.holds Tryd.pinned (.plain (OpenSpec.ofChange fnExactDecompOkSpec)) fnExactDecompOkCard

/-- THE TIED CARD OF 'laws.FnMatchings'. -/
def fnMatchingsCard : Claim7 := { stood := { row := fnMatchingsRow, standIns := [], harness := (true, "a06d5e616d7f9bc7e5ee63a5bac2606de4d7310f81f5eaf37b37d0da95eb67b0"), looks := false }, kinds := [], alts := [], laidByText := true, laidKinds := [.data], laidTests := true, laidLooks := .later }
def FnMatchingsCardSaid : Prop := Claim7.holds Tryd.pinned (.plain (OpenSpec.ofChange fnMatchingsSpec)) fnMatchingsCard

/-- THE SECOND FORM's CARD OF 'laws.FnExactDecompOk'. -/
def fnExactDecompOkUptoCard : Claim7 := { stood := { row := fnExactDecompOkUptoRow, standIns := [], harness := (true, "a06d5e616d7f9bc7e5ee63a5bac2606de4d7310f81f5eaf37b37d0da95eb67b0"), looks := false }, kinds := [], alts := [], laidByText := true, laidKinds := [.data], laidTests := true, laidLooks := .later }
def FnExactDecompOkUptoCardSaid : Prop := Claim7.holds Tryd.pinned (.plain (OpenSpec.upto fnExactDecompOkSpec)) fnExactDecompOkUptoCard

/-- THE SECOND FORM's CARD OF 'laws.FnMatchings'. -/
def fnMatchingsUptoCard : Claim7 := { stood := { row := fnMatchingsUptoRow, standIns := [], harness := (true, "a06d5e616d7f9bc7e5ee63a5bac2606de4d7310f81f5eaf37b37d0da95eb67b0"), looks := false }, kinds := [], alts := [], laidByText := true, laidKinds := [.data], laidTests := true, laidLooks := .later }
def FnMatchingsUptoCardSaid : Prop := Claim7.holds Tryd.pinned (.plain (OpenSpec.upto fnMatchingsSpec)) fnMatchingsUptoCard
end Rows
end Go.Proofs.YteblmlgidgpeaaaDoor

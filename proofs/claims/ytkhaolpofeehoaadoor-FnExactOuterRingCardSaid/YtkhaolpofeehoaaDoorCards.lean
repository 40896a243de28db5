/-
  DERIVED. GIVEN WITH THE SEED: THE CARDS: each row of YtkhaolpofeehoaaDoorRows.lean that lists a variable, with what it lists TIED to the program's text (the seventh form; the later family's looks); each row that meets fmt, with fmt's text TOLD by the authors' own Lean function (tested against real Go, not proved from fmt's source: count such statements apart). THE CARD IS WHAT COUNTS. Prove the row's statement (the work); the ties are given (YtkhaolpofeehoaaDoorTie.lean); close each card by the builder's one call (the guide's Derived/Test/ToyasCard.lean, 'card_holds'). Laid BY PROGRAM, IN A SANDBOX (cutbox-door.mjs). By AI agents, Wed Nov 11 2026. No macro, syntax, notation, axiom, sorry.
-/
import Derived.Test.YtkhaolpofeehoaaDoorRows
import GoSem.ClaimSeven
namespace Go.Proofs.YtkhaolpofeehoaaDoor
namespace Rows

/-- THE TIED CARD OF 'laws.FnExactOuterIn'. -/
def fnExactOuterInCard : Claim7 := { stood := { row := fnExactOuterInRow, standIns := [], harness := (true, "de0d944ecc35858a0dc2341dfad2eafa7192b748983cbbc39199291237705a04"), looks := false }, kinds := [], alts := [], laidByText := true, laidKinds := [.data], laidTests := true, laidLooks := .later }
def FnExactOuterInCardSaid : Prop := Claim7.holds Tryd.pinned (.plain (OpenSpec.ofChange fnExactOuterInSpec)) fnExactOuterInCard

/-- THE TIED CARD OF 'laws.FnExactLeastCrossings'. -/
def fnExactLeastCrossingsCard : Claim7 := { stood := { row := fnExactLeastCrossingsRow, standIns := [], harness := (true, "de0d944ecc35858a0dc2341dfad2eafa7192b748983cbbc39199291237705a04"), looks := false }, kinds := [], alts := [], laidByText := true, laidKinds := [.data], laidTests := true, laidLooks := .later }
def FnExactLeastCrossingsCardSaid : Prop := Claim7.holds Tryd.pinned (.plain (OpenSpec.ofChange fnExactLeastCrossingsSpec)) fnExactLeastCrossingsCard

/-- THE TIED CARD OF 'laws.FnExactOuterRing'. -/
def fnExactOuterRingCard : Claim7 := { stood := { row := fnExactOuterRingRow, standIns := [], harness := (true, "de0d944ecc35858a0dc2341dfad2eafa7192b748983cbbc39199291237705a04"), looks := false }, kinds := [], alts := [], laidByText := true, laidKinds := [.data], laidTests := true, laidLooks := .later }
def FnExactOuterRingCardSaid : Prop := Claim7.holds Tryd.pinned (.plain (OpenSpec.ofChange fnExactOuterRingSpec)) fnExactOuterRingCard

/-- THE SECOND FORM's CARD OF 'laws.FnExactOuterIn'. -/
def fnExactOuterInUptoCard : Claim7 := { stood := { row := fnExactOuterInUptoRow, standIns := [], harness := (true, "de0d944ecc35858a0dc2341dfad2eafa7192b748983cbbc39199291237705a04"), looks := false }, kinds := [], alts := [], laidByText := true, laidKinds := [.data], laidTests := true, laidLooks := .later }
def FnExactOuterInUptoCardSaid : Prop := Claim7.holds Tryd.pinned (.plain (OpenSpec.upto fnExactOuterInSpec)) fnExactOuterInUptoCard

/-- THE SECOND FORM's CARD OF 'laws.FnExactLeastCrossings'. -/
def fnExactLeastCrossingsUptoCard : Claim7 := { stood := { row := fnExactLeastCrossingsUptoRow, standIns := [], harness := (true, "de0d944ecc35858a0dc2341dfad2eafa7192b748983cbbc39199291237705a04"), looks := false }, kinds := [], alts := [], laidByText := true, laidKinds := [.data], laidTests := true, laidLooks := .later }
def FnExactLeastCrossingsUptoCardSaid : Prop := Claim7.holds Tryd.pinned (.plain (OpenSpec.upto fnExactLeastCrossingsSpec)) fnExactLeastCrossingsUptoCard

/-- THE SECOND FORM's CARD OF 'laws.FnExactOuterRing'. -/
def fnExactOuterRingUptoCard : Claim7 := { stood := { row := fnExactOuterRingUptoRow, standIns := [], harness := (true, "de0d944ecc35858a0dc2341dfad2eafa7192b748983cbbc39199291237705a04"), looks := false }, kinds := [], alts := [], laidByText := true, laidKinds := [.data], laidTests := true, laidLooks := .later }
def FnExactOuterRingUptoCardSaid : Prop := Claim7.holds Tryd.pinned (.plain (OpenSpec.upto fnExactOuterRingSpec)) fnExactOuterRingUptoCard
end Rows
end Go.Proofs.YtkhaolpofeehoaaDoor

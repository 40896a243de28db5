/-
  DERIVED. GIVEN WITH THE SEED: THE CARDS: each row of YtdlmmchdpnmaeaaDoorRows.lean that lists a variable, with what it lists TIED to the program's text (the seventh form; the later family's looks); each row that meets fmt, with fmt's text TOLD by the authors' own Lean function (tested against real Go, not proved from fmt's source: count such statements apart). THE CARD IS WHAT COUNTS. Prove the row's statement (the work); the ties are given (YtdlmmchdpnmaeaaDoorTie.lean); close each card by the builder's one call (the guide's Derived/Test/ToyasCard.lean, 'card_holds'). Laid BY PROGRAM, IN A SANDBOX (cutbox-door.mjs). By AI agents, Wed Nov 11 2026. No macro, syntax, notation, axiom, sorry.
-/
import Derived.Test.YtdlmmchdpnmaeaaDoorRows
import GoSem.ClaimSeven
namespace Go.Proofs.YtdlmmchdpnmaeaaDoor
namespace Rows

/-- THE TIED CARD OF 'laws.FnExactRoundTrip'. -/
def fnExactRoundTripCard : Claim7 := { stood := { row := fnExactRoundTripRow, standIns := [], harness := (true, "b7dbfb320ae7883b01e365f87192427898b6a842b5c1e5ce22f2b5292ec6c4b0"), looks := false }, kinds := [], alts := [], laidByText := true, laidKinds := [.data], laidTests := true, laidLooks := .later }
def FnExactRoundTripCardSaid : Prop := Claim7.holds Tryd.pinned (.plain (OpenSpec.ofChange fnExactRoundTripSpec)) fnExactRoundTripCard

/-- THE TIED CARD OF 'laws.FnExactBarrierOk'. -/
def fnExactBarrierOkCard : Claim7 := { stood := { row := fnExactBarrierOkRow, standIns := [], harness := (true, "b7dbfb320ae7883b01e365f87192427898b6a842b5c1e5ce22f2b5292ec6c4b0"), looks := false }, kinds := [], alts := [], laidByText := true, laidKinds := [.data], laidTests := true, laidLooks := .later }
def FnExactBarrierOkCardSaid : Prop := Claim7.holds Tryd.pinned (.plain (OpenSpec.ofChange fnExactBarrierOkSpec)) fnExactBarrierOkCard

/-- THE TIED CARD OF 'laws.FnExactFullPath'. -/
def fnExactFullPathCard : Claim7 := { stood := { row := fnExactFullPathRow, standIns := [], harness := (true, "b7dbfb320ae7883b01e365f87192427898b6a842b5c1e5ce22f2b5292ec6c4b0"), looks := false }, kinds := [], alts := [], laidByText := true, laidKinds := [.data], laidTests := true, laidLooks := .later }
def FnExactFullPathCardSaid : Prop := Claim7.holds Tryd.pinned (.plain (OpenSpec.ofChange fnExactFullPathSpec)) fnExactFullPathCard

/-- THE TIED CARD OF 'laws.FnExactLongerPath'. -/
def fnExactLongerPathCard : Claim7 := { stood := { row := fnExactLongerPathRow, standIns := [], harness := (true, "b7dbfb320ae7883b01e365f87192427898b6a842b5c1e5ce22f2b5292ec6c4b0"), looks := false }, kinds := [], alts := [], laidByText := true, laidKinds := [.data], laidTests := true, laidLooks := .later }
def FnExactLongerPathCardSaid : Prop := Claim7.holds Tryd.pinned (.plain (OpenSpec.ofChange fnExactLongerPathSpec)) fnExactLongerPathCard

/-- THE SECOND FORM's CARD OF 'laws.FnExactRoundTrip'. -/
def fnExactRoundTripUptoCard : Claim7 := { stood := { row := fnExactRoundTripUptoRow, standIns := [], harness := (true, "b7dbfb320ae7883b01e365f87192427898b6a842b5c1e5ce22f2b5292ec6c4b0"), looks := false }, kinds := [], alts := [], laidByText := true, laidKinds := [.data], laidTests := true, laidLooks := .later }
def FnExactRoundTripUptoCardSaid : Prop := Claim7.holds Tryd.pinned (.plain (OpenSpec.upto fnExactRoundTripSpec)) fnExactRoundTripUptoCard

/-- THE SECOND FORM's CARD OF 'laws.FnExactBarrierOk'. -/
def fnExactBarrierOkUptoCard : Claim7 := { stood := { row := fnExactBarrierOkUptoRow, standIns := [], harness := (true, "b7dbfb320ae7883b01e365f87192427898b6a842b5c1e5ce22f2b5292ec6c4b0"), looks := false }, kinds := [], alts := [], laidByText := true, laidKinds := [.data], laidTests := true, laidLooks := .later }
def FnExactBarrierOkUptoCardSaid : Prop := Claim7.holds Tryd.pinned (.plain (OpenSpec.upto fnExactBarrierOkSpec)) fnExactBarrierOkUptoCard

/-- THE SECOND FORM's CARD OF 'laws.FnExactFullPath'. -/
def fnExactFullPathUptoCard : Claim7 := { stood := { row := fnExactFullPathUptoRow, standIns := [], harness := (true, "b7dbfb320ae7883b01e365f87192427898b6a842b5c1e5ce22f2b5292ec6c4b0"), looks := false }, kinds := [], alts := [], laidByText := true, laidKinds := [.data], laidTests := true, laidLooks := .later }
def FnExactFullPathUptoCardSaid : Prop := Claim7.holds Tryd.pinned (.plain (OpenSpec.upto fnExactFullPathSpec)) fnExactFullPathUptoCard

/-- THE SECOND FORM's CARD OF 'laws.FnExactLongerPath'. -/
def fnExactLongerPathUptoCard : Claim7 := { stood := { row := fnExactLongerPathUptoRow, standIns := [], harness := (true, "b7dbfb320ae7883b01e365f87192427898b6a842b5c1e5ce22f2b5292ec6c4b0"), looks := false }, kinds := [], alts := [], laidByText := true, laidKinds := [.data], laidTests := true, laidLooks := .later }
def FnExactLongerPathUptoCardSaid : Prop := Claim7.holds Tryd.pinned (.plain (OpenSpec.upto fnExactLongerPathSpec)) fnExactLongerPathUptoCard
end Rows
end Go.Proofs.YtdlmmchdpnmaeaaDoor

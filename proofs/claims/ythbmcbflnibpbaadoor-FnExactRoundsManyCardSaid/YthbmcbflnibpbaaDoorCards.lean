/-
  DERIVED. GIVEN WITH THE SEED: THE CARDS: each row of YthbmcbflnibpbaaDoorRows.lean that lists a variable, with what it lists TIED to the program's text (the seventh form; the later family's looks); each row that meets fmt, with fmt's text TOLD by the authors' own Lean function (tested against real Go, not proved from fmt's source: count such statements apart). THE CARD IS WHAT COUNTS. Prove the row's statement (the work); the ties are given (YthbmcbflnibpbaaDoorTie.lean); close each card by the builder's one call (the guide's Derived/Test/ToyasCard.lean, 'card_holds'). Laid BY PROGRAM, IN A SANDBOX (cutbox-door.mjs). By AI agents, Wed Nov 11 2026. No macro, syntax, notation, axiom, sorry.
-/
import Derived.Test.YthbmcbflnibpbaaDoorRows
import GoSem.ClaimSeven
namespace Go.Proofs.YthbmcbflnibpbaaDoor
namespace Rows

/-- THE TIED CARD OF 'laws.FnExactRoundsMany'. -/
def fnExactRoundsManyCard : Claim7 := { stood := { row := fnExactRoundsManyRow, standIns := [], harness := (true, "e99b0b39bd193ff665afdd41f9799773c96475ff217df4047e55f9648eb2c47b"), looks := false }, kinds := [], alts := [], laidByText := true, laidKinds := [.data], laidTests := true, laidLooks := .later }
def FnExactRoundsManyCardSaid : Prop := Claim7.holds Tryd.pinned (.plain (OpenSpec.ofChange fnExactRoundsManySpec)) fnExactRoundsManyCard

/-- THE TIED CARD OF 'laws.FnExactBestMatch'. -/
def fnExactBestMatchCard : Claim7 := { stood := { row := fnExactBestMatchRow, standIns := [], harness := (true, "e99b0b39bd193ff665afdd41f9799773c96475ff217df4047e55f9648eb2c47b"), looks := false }, kinds := [], alts := [], laidByText := true, laidKinds := [.data], laidTests := true, laidLooks := .later }
def FnExactBestMatchCardSaid : Prop := Claim7.holds Tryd.pinned (.plain (OpenSpec.ofChange fnExactBestMatchSpec)) fnExactBestMatchCard

/-- THE TIED CARD OF 'laws.FnExactRoundTrip'. -/
def fnExactRoundTripCard : Claim7 := { stood := { row := fnExactRoundTripRow, standIns := [], harness := (true, "e99b0b39bd193ff665afdd41f9799773c96475ff217df4047e55f9648eb2c47b"), looks := false }, kinds := [], alts := [], laidByText := true, laidKinds := [.data], laidTests := true, laidLooks := .later }
def FnExactRoundTripCardSaid : Prop := Claim7.holds Tryd.pinned (.plain (OpenSpec.ofChange fnExactRoundTripSpec)) fnExactRoundTripCard

/-- THE SECOND FORM's CARD OF 'laws.FnExactRoundsMany'. -/
def fnExactRoundsManyUptoCard : Claim7 := { stood := { row := fnExactRoundsManyUptoRow, standIns := [], harness := (true, "e99b0b39bd193ff665afdd41f9799773c96475ff217df4047e55f9648eb2c47b"), looks := false }, kinds := [], alts := [], laidByText := true, laidKinds := [.data], laidTests := true, laidLooks := .later }
def FnExactRoundsManyUptoCardSaid : Prop := Claim7.holds Tryd.pinned (.plain (OpenSpec.upto fnExactRoundsManySpec)) fnExactRoundsManyUptoCard

/-- THE SECOND FORM's CARD OF 'laws.FnExactBestMatch'. -/
def fnExactBestMatchUptoCard : Claim7 := { stood := { row := fnExactBestMatchUptoRow, standIns := [], harness := (true, "e99b0b39bd193ff665afdd41f9799773c96475ff217df4047e55f9648eb2c47b"), looks := false }, kinds := [], alts := [], laidByText := true, laidKinds := [.data], laidTests := true, laidLooks := .later }
def FnExactBestMatchUptoCardSaid : Prop := Claim7.holds Tryd.pinned (.plain (OpenSpec.upto fnExactBestMatchSpec)) fnExactBestMatchUptoCard

/-- THE SECOND FORM's CARD OF 'laws.FnExactRoundTrip'. -/
def fnExactRoundTripUptoCard : Claim7 := { stood := { row := fnExactRoundTripUptoRow, standIns := [], harness := (true, "e99b0b39bd193ff665afdd41f9799773c96475ff217df4047e55f9648eb2c47b"), looks := false }, kinds := [], alts := [], laidByText := true, laidKinds := [.data], laidTests := true, laidLooks := .later }
def FnExactRoundTripUptoCardSaid : Prop := Claim7.holds Tryd.pinned (.plain (OpenSpec.upto fnExactRoundTripSpec)) fnExactRoundTripUptoCard
end Rows
end Go.Proofs.YthbmcbflnibpbaaDoor

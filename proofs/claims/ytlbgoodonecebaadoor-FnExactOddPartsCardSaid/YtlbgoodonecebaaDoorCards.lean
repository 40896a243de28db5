/-
  DERIVED. GIVEN WITH THE SEED: THE CARDS: each row of YtlbgoodonecebaaDoorRows.lean that lists a variable, with what it lists TIED to the program's text (the seventh form; the later family's looks); each row that meets fmt, with fmt's text TOLD by the authors' own Lean function (tested against real Go, not proved from fmt's source: count such statements apart). THE CARD IS WHAT COUNTS. Prove the row's statement (the work); the ties are given (YtlbgoodonecebaaDoorTie.lean); close each card by the builder's one call (the guide's Derived/Test/ToyasCard.lean, 'card_holds'). Laid BY PROGRAM, IN A SANDBOX (cutbox-door.mjs). By AI agents, Wed Nov 11 2026. No macro, syntax, notation, axiom, sorry.
-/
import Derived.Test.YtlbgoodonecebaaDoorRows
import GoSem.ClaimSeven
namespace Go.Proofs.YtlbgoodonecebaaDoor
namespace Rows

/-- THE TIED CARD OF 'laws.FnExactRoundsMany'. -/
def fnExactRoundsManyCard : Claim7 := { stood := { row := fnExactRoundsManyRow, standIns := [], harness := (true, "b7eeececfde1476af79681b45bb6100e3db4b9f7c2bed9951c52558073b25bd1"), looks := false }, kinds := [], alts := [], laidByText := true, laidKinds := [.data], laidTests := true, laidLooks := .later }
def FnExactRoundsManyCardSaid : Prop := Claim7.holds Tryd.pinned (.plain (OpenSpec.ofChange fnExactRoundsManySpec)) fnExactRoundsManyCard

/-- THE TIED CARD OF 'laws.FnExactOddParts'. -/
def fnExactOddPartsCard : Claim7 := { stood := { row := fnExactOddPartsRow, standIns := [], harness := (true, "b7eeececfde1476af79681b45bb6100e3db4b9f7c2bed9951c52558073b25bd1"), looks := false }, kinds := [], alts := [], laidByText := true, laidKinds := [.data], laidTests := true, laidLooks := .later }
def FnExactOddPartsCardSaid : Prop := Claim7.holds Tryd.pinned (.plain (OpenSpec.ofChange fnExactOddPartsSpec)) fnExactOddPartsCard

/-- THE TIED CARD OF 'laws.FnExactBestColours'. -/
def fnExactBestColoursCard : Claim7 := { stood := { row := fnExactBestColoursRow, standIns := [], harness := (true, "b7eeececfde1476af79681b45bb6100e3db4b9f7c2bed9951c52558073b25bd1"), looks := false }, kinds := [], alts := [], laidByText := true, laidKinds := [.data], laidTests := true, laidLooks := .later }
def FnExactBestColoursCardSaid : Prop := Claim7.holds Tryd.pinned (.plain (OpenSpec.ofChange fnExactBestColoursSpec)) fnExactBestColoursCard

/-- THE TIED CARD OF 'laws.FnCritical'. -/
def fnCriticalCard : Claim7 := { stood := { row := fnCriticalRow, standIns := [], harness := (true, "b7eeececfde1476af79681b45bb6100e3db4b9f7c2bed9951c52558073b25bd1"), looks := false }, kinds := [], alts := [], laidByText := true, laidKinds := [.data], laidTests := true, laidLooks := .later }
def FnCriticalCardSaid : Prop := Claim7.holds Tryd.pinned (.plain (OpenSpec.ofChange fnCriticalSpec)) fnCriticalCard

/-- THE TIED CARD OF 'laws.FnExactCriticalIn'. -/
def fnExactCriticalInCard : Claim7 := { stood := { row := fnExactCriticalInRow, standIns := [], harness := (true, "b7eeececfde1476af79681b45bb6100e3db4b9f7c2bed9951c52558073b25bd1"), looks := false }, kinds := [], alts := [], laidByText := true, laidKinds := [.data], laidTests := true, laidLooks := .later }
def FnExactCriticalInCardSaid : Prop := Claim7.holds Tryd.pinned (.plain (OpenSpec.ofChange fnExactCriticalInSpec)) fnExactCriticalInCard

/-- THE TIED CARD OF 'laws.FnExactBestMatch'. -/
def fnExactBestMatchCard : Claim7 := { stood := { row := fnExactBestMatchRow, standIns := [], harness := (true, "b7eeececfde1476af79681b45bb6100e3db4b9f7c2bed9951c52558073b25bd1"), looks := false }, kinds := [], alts := [], laidByText := true, laidKinds := [.data], laidTests := true, laidLooks := .later }
def FnExactBestMatchCardSaid : Prop := Claim7.holds Tryd.pinned (.plain (OpenSpec.ofChange fnExactBestMatchSpec)) fnExactBestMatchCard

/-- THE SECOND FORM's CARD OF 'laws.FnExactRoundsMany'. -/
def fnExactRoundsManyUptoCard : Claim7 := { stood := { row := fnExactRoundsManyUptoRow, standIns := [], harness := (true, "b7eeececfde1476af79681b45bb6100e3db4b9f7c2bed9951c52558073b25bd1"), looks := false }, kinds := [], alts := [], laidByText := true, laidKinds := [.data], laidTests := true, laidLooks := .later }
def FnExactRoundsManyUptoCardSaid : Prop := Claim7.holds Tryd.pinned (.plain (OpenSpec.upto fnExactRoundsManySpec)) fnExactRoundsManyUptoCard

/-- THE SECOND FORM's CARD OF 'laws.FnExactOddParts'. -/
def fnExactOddPartsUptoCard : Claim7 := { stood := { row := fnExactOddPartsUptoRow, standIns := [], harness := (true, "b7eeececfde1476af79681b45bb6100e3db4b9f7c2bed9951c52558073b25bd1"), looks := false }, kinds := [], alts := [], laidByText := true, laidKinds := [.data], laidTests := true, laidLooks := .later }
def FnExactOddPartsUptoCardSaid : Prop := Claim7.holds Tryd.pinned (.plain (OpenSpec.upto fnExactOddPartsSpec)) fnExactOddPartsUptoCard

/-- THE SECOND FORM's CARD OF 'laws.FnExactBestColours'. -/
def fnExactBestColoursUptoCard : Claim7 := { stood := { row := fnExactBestColoursUptoRow, standIns := [], harness := (true, "b7eeececfde1476af79681b45bb6100e3db4b9f7c2bed9951c52558073b25bd1"), looks := false }, kinds := [], alts := [], laidByText := true, laidKinds := [.data], laidTests := true, laidLooks := .later }
def FnExactBestColoursUptoCardSaid : Prop := Claim7.holds Tryd.pinned (.plain (OpenSpec.upto fnExactBestColoursSpec)) fnExactBestColoursUptoCard

/-- THE SECOND FORM's CARD OF 'laws.FnCritical'. -/
def fnCriticalUptoCard : Claim7 := { stood := { row := fnCriticalUptoRow, standIns := [], harness := (true, "b7eeececfde1476af79681b45bb6100e3db4b9f7c2bed9951c52558073b25bd1"), looks := false }, kinds := [], alts := [], laidByText := true, laidKinds := [.data], laidTests := true, laidLooks := .later }
def FnCriticalUptoCardSaid : Prop := Claim7.holds Tryd.pinned (.plain (OpenSpec.upto fnCriticalSpec)) fnCriticalUptoCard

/-- THE SECOND FORM's CARD OF 'laws.FnExactCriticalIn'. -/
def fnExactCriticalInUptoCard : Claim7 := { stood := { row := fnExactCriticalInUptoRow, standIns := [], harness := (true, "b7eeececfde1476af79681b45bb6100e3db4b9f7c2bed9951c52558073b25bd1"), looks := false }, kinds := [], alts := [], laidByText := true, laidKinds := [.data], laidTests := true, laidLooks := .later }
def FnExactCriticalInUptoCardSaid : Prop := Claim7.holds Tryd.pinned (.plain (OpenSpec.upto fnExactCriticalInSpec)) fnExactCriticalInUptoCard

/-- THE SECOND FORM's CARD OF 'laws.FnExactBestMatch'. -/
def fnExactBestMatchUptoCard : Claim7 := { stood := { row := fnExactBestMatchUptoRow, standIns := [], harness := (true, "b7eeececfde1476af79681b45bb6100e3db4b9f7c2bed9951c52558073b25bd1"), looks := false }, kinds := [], alts := [], laidByText := true, laidKinds := [.data], laidTests := true, laidLooks := .later }
def FnExactBestMatchUptoCardSaid : Prop := Claim7.holds Tryd.pinned (.plain (OpenSpec.upto fnExactBestMatchSpec)) fnExactBestMatchUptoCard
end Rows
end Go.Proofs.YtlbgoodonecebaaDoor

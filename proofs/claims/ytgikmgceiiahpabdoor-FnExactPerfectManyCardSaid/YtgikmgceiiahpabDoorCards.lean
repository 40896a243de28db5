/-
  DERIVED. GIVEN WITH THE SEED: THE CARDS: each row of YtgikmgceiiahpabDoorRows.lean that lists a variable, with what it lists TIED to the program's text (the seventh form; the later family's looks); each row that meets fmt, with fmt's text TOLD by the authors' own Lean function (tested against real Go, not proved from fmt's source: count such statements apart). THE CARD IS WHAT COUNTS. Prove the row's statement (the work); the ties are given (YtgikmgceiiahpabDoorTie.lean); close each card by the builder's one call (the guide's Derived/Test/ToyasCard.lean, 'card_holds'). Laid BY PROGRAM, IN A SANDBOX (cutbox-door.mjs). By AI agents, Wed Nov 11 2026. No macro, syntax, notation, axiom, sorry.
-/
import Derived.Test.YtgikmgceiiahpabDoorRows
import GoSem.ClaimSeven
namespace Go.Proofs.YtgikmgceiiahpabDoor
namespace Rows

/-- THE TIED CARD OF 'laws.FnExactCoverIn'. -/
def fnExactCoverInCard : Claim7 := { stood := { row := fnExactCoverInRow, standIns := [], harness := (true, "ffcbc979a4c8815e9b29ccb57bb84b25acf92518ff630982e7990f74fcd6355b"), looks := false }, kinds := [], alts := [], laidByText := true, laidKinds := [.data], laidTests := true, laidLooks := .later }
def FnExactCoverInCardSaid : Prop := Claim7.holds Tryd.pinned (.plain (OpenSpec.ofChange fnExactCoverInSpec)) fnExactCoverInCard

/-- THE TIED CARD OF 'laws.FnExactRulesMany'. -/
def fnExactRulesManyCard : Claim7 := { stood := { row := fnExactRulesManyRow, standIns := [], harness := (true, "ffcbc979a4c8815e9b29ccb57bb84b25acf92518ff630982e7990f74fcd6355b"), looks := false }, kinds := [], alts := [], laidByText := true, laidKinds := [.data], laidTests := true, laidLooks := .later }
def FnExactRulesManyCardSaid : Prop := Claim7.holds Tryd.pinned (.plain (OpenSpec.ofChange fnExactRulesManySpec)) fnExactRulesManyCard

/-- THE TIED CARD OF 'laws.FnExactMatchingsMany'. -/
def fnExactMatchingsManyCard : Claim7 := { stood := { row := fnExactMatchingsManyRow, standIns := [], harness := (true, "ffcbc979a4c8815e9b29ccb57bb84b25acf92518ff630982e7990f74fcd6355b"), looks := false }, kinds := [], alts := [], laidByText := true, laidKinds := [.data], laidTests := true, laidLooks := .later }
def FnExactMatchingsManyCardSaid : Prop := Claim7.holds Tryd.pinned (.plain (OpenSpec.ofChange fnExactMatchingsManySpec)) fnExactMatchingsManyCard

/-- THE TIED CARD OF 'laws.FnExactPerfectMany'. -/
def fnExactPerfectManyCard : Claim7 := { stood := { row := fnExactPerfectManyRow, standIns := [], harness := (true, "ffcbc979a4c8815e9b29ccb57bb84b25acf92518ff630982e7990f74fcd6355b"), looks := false }, kinds := [], alts := [], laidByText := true, laidKinds := [.data], laidTests := true, laidLooks := .later }
def FnExactPerfectManyCardSaid : Prop := Claim7.holds Tryd.pinned (.plain (OpenSpec.ofChange fnExactPerfectManySpec)) fnExactPerfectManyCard

/-- THE SECOND FORM's CARD OF 'laws.FnExactCoverIn'. -/
def fnExactCoverInUptoCard : Claim7 := { stood := { row := fnExactCoverInUptoRow, standIns := [], harness := (true, "ffcbc979a4c8815e9b29ccb57bb84b25acf92518ff630982e7990f74fcd6355b"), looks := false }, kinds := [], alts := [], laidByText := true, laidKinds := [.data], laidTests := true, laidLooks := .later }
def FnExactCoverInUptoCardSaid : Prop := Claim7.holds Tryd.pinned (.plain (OpenSpec.upto fnExactCoverInSpec)) fnExactCoverInUptoCard

/-- THE SECOND FORM's CARD OF 'laws.FnExactRulesMany'. -/
def fnExactRulesManyUptoCard : Claim7 := { stood := { row := fnExactRulesManyUptoRow, standIns := [], harness := (true, "ffcbc979a4c8815e9b29ccb57bb84b25acf92518ff630982e7990f74fcd6355b"), looks := false }, kinds := [], alts := [], laidByText := true, laidKinds := [.data], laidTests := true, laidLooks := .later }
def FnExactRulesManyUptoCardSaid : Prop := Claim7.holds Tryd.pinned (.plain (OpenSpec.upto fnExactRulesManySpec)) fnExactRulesManyUptoCard

/-- THE SECOND FORM's CARD OF 'laws.FnExactMatchingsMany'. -/
def fnExactMatchingsManyUptoCard : Claim7 := { stood := { row := fnExactMatchingsManyUptoRow, standIns := [], harness := (true, "ffcbc979a4c8815e9b29ccb57bb84b25acf92518ff630982e7990f74fcd6355b"), looks := false }, kinds := [], alts := [], laidByText := true, laidKinds := [.data], laidTests := true, laidLooks := .later }
def FnExactMatchingsManyUptoCardSaid : Prop := Claim7.holds Tryd.pinned (.plain (OpenSpec.upto fnExactMatchingsManySpec)) fnExactMatchingsManyUptoCard

/-- THE SECOND FORM's CARD OF 'laws.FnExactPerfectMany'. -/
def fnExactPerfectManyUptoCard : Claim7 := { stood := { row := fnExactPerfectManyUptoRow, standIns := [], harness := (true, "ffcbc979a4c8815e9b29ccb57bb84b25acf92518ff630982e7990f74fcd6355b"), looks := false }, kinds := [], alts := [], laidByText := true, laidKinds := [.data], laidTests := true, laidLooks := .later }
def FnExactPerfectManyUptoCardSaid : Prop := Claim7.holds Tryd.pinned (.plain (OpenSpec.upto fnExactPerfectManySpec)) fnExactPerfectManyUptoCard
end Rows
end Go.Proofs.YtgikmgceiiahpabDoor

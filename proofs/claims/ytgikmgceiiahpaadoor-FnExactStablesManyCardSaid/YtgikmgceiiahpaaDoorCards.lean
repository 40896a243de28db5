/-
  DERIVED. GIVEN WITH THE SEED: THE CARDS: each row of YtgikmgceiiahpaaDoorRows.lean that lists a variable, with what it lists TIED to the program's text (the seventh form; the later family's looks); each row that meets fmt, with fmt's text TOLD by the authors' own Lean function (tested against real Go, not proved from fmt's source: count such statements apart). THE CARD IS WHAT COUNTS. Prove the row's statement (the work); the ties are given (YtgikmgceiiahpaaDoorTie.lean); close each card by the builder's one call (the guide's Derived/Test/ToyasCard.lean, 'card_holds'). Laid BY PROGRAM, IN A SANDBOX (cutbox-door.mjs). By AI agents, Wed Nov 11 2026. No macro, syntax, notation, axiom, sorry.
-/
import Derived.Test.YtgikmgceiiahpaaDoorRows
import GoSem.ClaimSeven
namespace Go.Proofs.YtgikmgceiiahpaaDoor
namespace Rows

/-- THE TIED CARD OF 'laws.FnExactStablesMany'. -/
def fnExactStablesManyCard : Claim7 := { stood := { row := fnExactStablesManyRow, standIns := [], harness := (true, "61c6a52b59966e337fd63671041c4cb19b3a250b675199193979b46480b3cae4"), looks := false }, kinds := [], alts := [], laidByText := true, laidKinds := [.data], laidTests := true, laidLooks := .later }
def FnExactStablesManyCardSaid : Prop := Claim7.holds Tryd.pinned (.plain (OpenSpec.ofChange fnExactStablesManySpec)) fnExactStablesManyCard

/-- THE TIED CARD OF 'laws.FnExactRuleIn'. -/
def fnExactRuleInCard : Claim7 := { stood := { row := fnExactRuleInRow, standIns := [], harness := (true, "61c6a52b59966e337fd63671041c4cb19b3a250b675199193979b46480b3cae4"), looks := false }, kinds := [], alts := [], laidByText := true, laidKinds := [.data], laidTests := true, laidLooks := .later }
def FnExactRuleInCardSaid : Prop := Claim7.holds Tryd.pinned (.plain (OpenSpec.ofChange fnExactRuleInSpec)) fnExactRuleInCard

/-- THE TIED CARD OF 'laws.FnExactStableIn'. -/
def fnExactStableInCard : Claim7 := { stood := { row := fnExactStableInRow, standIns := [], harness := (true, "61c6a52b59966e337fd63671041c4cb19b3a250b675199193979b46480b3cae4"), looks := false }, kinds := [], alts := [], laidByText := true, laidKinds := [.data], laidTests := true, laidLooks := .later }
def FnExactStableInCardSaid : Prop := Claim7.holds Tryd.pinned (.plain (OpenSpec.ofChange fnExactStableInSpec)) fnExactStableInCard

/-- THE TIED CARD OF 'laws.FnExactCliqueIn'. -/
def fnExactCliqueInCard : Claim7 := { stood := { row := fnExactCliqueInRow, standIns := [], harness := (true, "61c6a52b59966e337fd63671041c4cb19b3a250b675199193979b46480b3cae4"), looks := false }, kinds := [], alts := [], laidByText := true, laidKinds := [.data], laidTests := true, laidLooks := .later }
def FnExactCliqueInCardSaid : Prop := Claim7.holds Tryd.pinned (.plain (OpenSpec.ofChange fnExactCliqueInSpec)) fnExactCliqueInCard

/-- THE SECOND FORM's CARD OF 'laws.FnExactStablesMany'. -/
def fnExactStablesManyUptoCard : Claim7 := { stood := { row := fnExactStablesManyUptoRow, standIns := [], harness := (true, "61c6a52b59966e337fd63671041c4cb19b3a250b675199193979b46480b3cae4"), looks := false }, kinds := [], alts := [], laidByText := true, laidKinds := [.data], laidTests := true, laidLooks := .later }
def FnExactStablesManyUptoCardSaid : Prop := Claim7.holds Tryd.pinned (.plain (OpenSpec.upto fnExactStablesManySpec)) fnExactStablesManyUptoCard

/-- THE SECOND FORM's CARD OF 'laws.FnExactRuleIn'. -/
def fnExactRuleInUptoCard : Claim7 := { stood := { row := fnExactRuleInUptoRow, standIns := [], harness := (true, "61c6a52b59966e337fd63671041c4cb19b3a250b675199193979b46480b3cae4"), looks := false }, kinds := [], alts := [], laidByText := true, laidKinds := [.data], laidTests := true, laidLooks := .later }
def FnExactRuleInUptoCardSaid : Prop := Claim7.holds Tryd.pinned (.plain (OpenSpec.upto fnExactRuleInSpec)) fnExactRuleInUptoCard

/-- THE SECOND FORM's CARD OF 'laws.FnExactStableIn'. -/
def fnExactStableInUptoCard : Claim7 := { stood := { row := fnExactStableInUptoRow, standIns := [], harness := (true, "61c6a52b59966e337fd63671041c4cb19b3a250b675199193979b46480b3cae4"), looks := false }, kinds := [], alts := [], laidByText := true, laidKinds := [.data], laidTests := true, laidLooks := .later }
def FnExactStableInUptoCardSaid : Prop := Claim7.holds Tryd.pinned (.plain (OpenSpec.upto fnExactStableInSpec)) fnExactStableInUptoCard

/-- THE SECOND FORM's CARD OF 'laws.FnExactCliqueIn'. -/
def fnExactCliqueInUptoCard : Claim7 := { stood := { row := fnExactCliqueInUptoRow, standIns := [], harness := (true, "61c6a52b59966e337fd63671041c4cb19b3a250b675199193979b46480b3cae4"), looks := false }, kinds := [], alts := [], laidByText := true, laidKinds := [.data], laidTests := true, laidLooks := .later }
def FnExactCliqueInUptoCardSaid : Prop := Claim7.holds Tryd.pinned (.plain (OpenSpec.upto fnExactCliqueInSpec)) fnExactCliqueInUptoCard
end Rows
end Go.Proofs.YtgikmgceiiahpaaDoor

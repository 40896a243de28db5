/-
  DERIVED. GIVEN WITH THE SEED: THE CARDS: each row of YtbcjeljppgojgaaDoorRows.lean that lists a variable, with what it lists TIED to the program's text (the seventh form; the later family's looks); each row that meets fmt, with fmt's text TOLD by the authors' own Lean function (tested against real Go, not proved from fmt's source: count such statements apart). THE CARD IS WHAT COUNTS. Prove the row's statement (the work); the ties are given (YtbcjeljppgojgaaDoorTie.lean); close each card by the builder's one call (the guide's Derived/Test/ToyasCard.lean, 'card_holds'). Laid BY PROGRAM, IN A SANDBOX (cutbox-door.mjs). By AI agents, Wed Nov 11 2026. No macro, syntax, notation, axiom, sorry.
-/
import Derived.Test.YtbcjeljppgojgaaDoorRows
import GoSem.ClaimSeven
namespace Go.Proofs.YtbcjeljppgojgaaDoor
namespace Rows

/-- THE TIED CARD OF 'laws.FnExactCrossLongest'. -/
def fnExactCrossLongestCard : Claim7 := { stood := { row := fnExactCrossLongestRow, standIns := [], harness := (true, "41155d60d35363719df3522a4d875bca279aba3134ef5ca26ff0ad62922636ae"), looks := false }, kinds := [], alts := [], laidByText := true, laidKinds := [.data], laidTests := true, laidLooks := .later }
def FnExactCrossLongestCardSaid : Prop := Claim7.holds Tryd.pinned (.plain (OpenSpec.ofChange fnExactCrossLongestSpec)) fnExactCrossLongestCard

/-- THE TIED CARD OF 'laws.FnExactStraightLongest'. -/
def fnExactStraightLongestCard : Claim7 := { stood := { row := fnExactStraightLongestRow, standIns := [], harness := (true, "41155d60d35363719df3522a4d875bca279aba3134ef5ca26ff0ad62922636ae"), looks := false }, kinds := [], alts := [], laidByText := true, laidKinds := [.data], laidTests := true, laidLooks := .later }
def FnExactStraightLongestCardSaid : Prop := Claim7.holds Tryd.pinned (.plain (OpenSpec.ofChange fnExactStraightLongestSpec)) fnExactStraightLongestCard

/-- THE SECOND FORM's CARD OF 'laws.FnExactCrossLongest'. -/
def fnExactCrossLongestUptoCard : Claim7 := { stood := { row := fnExactCrossLongestUptoRow, standIns := [], harness := (true, "41155d60d35363719df3522a4d875bca279aba3134ef5ca26ff0ad62922636ae"), looks := false }, kinds := [], alts := [], laidByText := true, laidKinds := [.data], laidTests := true, laidLooks := .later }
def FnExactCrossLongestUptoCardSaid : Prop := Claim7.holds Tryd.pinned (.plain (OpenSpec.upto fnExactCrossLongestSpec)) fnExactCrossLongestUptoCard

/-- THE SECOND FORM's CARD OF 'laws.FnExactStraightLongest'. -/
def fnExactStraightLongestUptoCard : Claim7 := { stood := { row := fnExactStraightLongestUptoRow, standIns := [], harness := (true, "41155d60d35363719df3522a4d875bca279aba3134ef5ca26ff0ad62922636ae"), looks := false }, kinds := [], alts := [], laidByText := true, laidKinds := [.data], laidTests := true, laidLooks := .later }
def FnExactStraightLongestUptoCardSaid : Prop := Claim7.holds Tryd.pinned (.plain (OpenSpec.upto fnExactStraightLongestSpec)) fnExactStraightLongestUptoCard
end Rows
end Go.Proofs.YtbcjeljppgojgaaDoor

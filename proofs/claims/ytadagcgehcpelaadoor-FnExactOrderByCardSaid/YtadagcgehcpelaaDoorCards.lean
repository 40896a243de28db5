/-
  DERIVED. GIVEN WITH THE SEED: THE CARDS: each row of YtadagcgehcpelaaDoorRows.lean that lists a variable, with what it lists TIED to the program's text (the seventh form; the later family's looks); each row that meets fmt, with fmt's text TOLD by the authors' own Lean function (tested against real Go, not proved from fmt's source: count such statements apart). THE CARD IS WHAT COUNTS. Prove the row's statement (the work); the ties are given (YtadagcgehcpelaaDoorTie.lean); close each card by the builder's one call (the guide's Derived/Test/ToyasCard.lean, 'card_holds'). Laid BY PROGRAM, IN A SANDBOX (cutbox-door.mjs). By AI agents, Wed Nov 11 2026. No macro, syntax, notation, axiom, sorry.
-/
import Derived.Test.YtadagcgehcpelaaDoorRows
import GoSem.ClaimSeven
namespace Go.Proofs.YtadagcgehcpelaaDoor
namespace Rows

/-- THE TIED CARD OF 'laws.FnExactOrderBy'. -/
def fnExactOrderByCard : Claim7 := { stood := { row := fnExactOrderByRow, standIns := [], harness := (true, "82bfbaf1a54800cf48290700156b27e28131bda1e4c4772367307c400af077ca"), looks := false }, kinds := [], alts := [], laidByText := true, laidKinds := [.data], laidTests := true, laidLooks := .later }
def FnExactOrderByCardSaid : Prop := Claim7.holds Tryd.pinned (.plain (OpenSpec.ofChange fnExactOrderBySpec)) fnExactOrderByCard

/-- THE SECOND FORM's CARD OF 'laws.FnExactOrderBy'. -/
def fnExactOrderByUptoCard : Claim7 := { stood := { row := fnExactOrderByUptoRow, standIns := [], harness := (true, "82bfbaf1a54800cf48290700156b27e28131bda1e4c4772367307c400af077ca"), looks := false }, kinds := [], alts := [], laidByText := true, laidKinds := [.data], laidTests := true, laidLooks := .later }
def FnExactOrderByUptoCardSaid : Prop := Claim7.holds Tryd.pinned (.plain (OpenSpec.upto fnExactOrderBySpec)) fnExactOrderByUptoCard
end Rows
end Go.Proofs.YtadagcgehcpelaaDoor

/-
  No cell of these rows narrows 'for every input' (looked for: loops, veiled, ifaces, maps, wideKeys, modest, calm, conditions, laid).
  DERIVED. THE GIVEN ROWS OF THIS SEAT. 6 by the template 'for every input the law returns true; each argument reads behind the call as it read before'; 0 by the template 'total and deterministic' (their statements: YtacgmkncleiblaaTotals.lean).
  GIVEN WITH THE SEED: the statements are not yours to turn. If you find one false, say at which input.
  Laid BY PROGRAM, IN A SANDBOX (cutbox-rows.mjs): the forced cells as the released guide's own fill.sh prints them over the translation 7f9746ad6412bf66… (all of the seat's roots in one cut). By AI agents, Wed Nov 11 2026. No macro, syntax, notation, axiom, sorry.
-/
import Derived.Test.YtacgmkncleiblaaChecked
import GoSem.Claim
import GoSem.ClaimJoined
import GoSem.ClaimMapViews
import Derived.JoinedTies
import Derived.KernelRfl
namespace Go.Proofs.Ytacgmkncleiblaa
/- THE CELL 'sum', in the pinned program and in every row, IS THE sha256 OF THE DUMP (.gsa) THAT YtacgmkncleiblaaProg.lean LOADS. Nothing in Lean hashes anything: it is a label: what it is worth is what the hold of that sum in a sandbox is worth. -/
noncomputable def Try.pinned : Pinned := { name := "ytacgmkncleiblaa", sum := "7f9746ad6412bf666a263da1b44e1d7c25617e130949968710b775d41b0103d0", checked := Try.checked }
namespace Rows
def none {H : Type} : Left H := { results := [], args := [] }

/-- 'laws.FnExactLeastNames': WHATEVER THE INPUT: true; the input reads as it did. -/
def fnExactLeastNamesSpec : ChangeSpec := { name := "fnExactLeastNames", fn := fun _ => fun
  | [d] => { results := [.lit (.bool true)], args := [d] }
  | _ => none }
def fnExactLeastNamesRow : OpenClaim := { program := "ytacgmkncleiblaa", sum := "7f9746ad6412bf666a263da1b44e1d7c25617e130949968710b775d41b0103d0", func := "loop.example/g00871/laws.FnExactLeastNames", spec := "fnExactLeastNames", apart := false }
def FnExactLeastNamesSaid : Prop := fnExactLeastNamesRow.holds Try.pinned (OpenSpec.ofChange fnExactLeastNamesSpec)

/-- ITS FALSE NEIGHBOUR: 'it returns false'. Refute it at one input. -/
def fnExactLeastNamesWrong : ChangeSpec := { name := "fnExactLeastNames", fn := fun _ => fun
  | [d] => { results := [.lit (.bool false)], args := [d] }
  | _ => none }
def FnExactLeastNamesWrongFalsely : Prop := fnExactLeastNamesRow.holds Try.pinned (OpenSpec.ofChange fnExactLeastNamesWrong)

/-- 'laws.FnExactNamedFormula': WHATEVER THE INPUT: true; the input reads as it did. -/
def fnExactNamedFormulaSpec : ChangeSpec := { name := "fnExactNamedFormula", fn := fun _ => fun
  | [d] => { results := [.lit (.bool true)], args := [d] }
  | _ => none }
def fnExactNamedFormulaRow : OpenClaim := { program := "ytacgmkncleiblaa", sum := "7f9746ad6412bf666a263da1b44e1d7c25617e130949968710b775d41b0103d0", func := "loop.example/g00871/laws.FnExactNamedFormula", spec := "fnExactNamedFormula", apart := false }
def FnExactNamedFormulaSaid : Prop := fnExactNamedFormulaRow.holds Try.pinned (OpenSpec.ofChange fnExactNamedFormulaSpec)

/-- ITS FALSE NEIGHBOUR: 'it returns false'. Refute it at one input. -/
def fnExactNamedFormulaWrong : ChangeSpec := { name := "fnExactNamedFormula", fn := fun _ => fun
  | [d] => { results := [.lit (.bool false)], args := [d] }
  | _ => none }
def FnExactNamedFormulaWrongFalsely : Prop := fnExactNamedFormulaRow.holds Try.pinned (OpenSpec.ofChange fnExactNamedFormulaWrong)

/-- 'laws.FnExactNumsParts': WHATEVER THE INPUT: true; the input reads as it did. -/
def fnExactNumsPartsSpec : ChangeSpec := { name := "fnExactNumsParts", fn := fun _ => fun
  | [d] => { results := [.lit (.bool true)], args := [d] }
  | _ => none }
def fnExactNumsPartsRow : OpenClaim := { program := "ytacgmkncleiblaa", sum := "7f9746ad6412bf666a263da1b44e1d7c25617e130949968710b775d41b0103d0", func := "loop.example/g00871/laws.FnExactNumsParts", spec := "fnExactNumsParts", apart := false }
def FnExactNumsPartsSaid : Prop := fnExactNumsPartsRow.holds Try.pinned (OpenSpec.ofChange fnExactNumsPartsSpec)

/-- ITS FALSE NEIGHBOUR: 'it returns false'. Refute it at one input. -/
def fnExactNumsPartsWrong : ChangeSpec := { name := "fnExactNumsParts", fn := fun _ => fun
  | [d] => { results := [.lit (.bool false)], args := [d] }
  | _ => none }
def FnExactNumsPartsWrongFalsely : Prop := fnExactNumsPartsRow.holds Try.pinned (OpenSpec.ofChange fnExactNumsPartsWrong)

/-- 'laws.FnExactFormulaOk': WHATEVER THE INPUT: true; the input reads as it did. -/
def fnExactFormulaOkSpec : ChangeSpec := { name := "fnExactFormulaOk", fn := fun _ => fun
  | [d] => { results := [.lit (.bool true)], args := [d] }
  | _ => none }
def fnExactFormulaOkRow : OpenClaim := { program := "ytacgmkncleiblaa", sum := "7f9746ad6412bf666a263da1b44e1d7c25617e130949968710b775d41b0103d0", func := "loop.example/g00871/laws.FnExactFormulaOk", spec := "fnExactFormulaOk", unfollowed := true, recurses := true, apart := false }
def FnExactFormulaOkSaid : Prop := fnExactFormulaOkRow.holds Try.pinned (OpenSpec.ofChange fnExactFormulaOkSpec)

/-- ITS FALSE NEIGHBOUR: 'it returns false'. Refute it at one input. -/
def fnExactFormulaOkWrong : ChangeSpec := { name := "fnExactFormulaOk", fn := fun _ => fun
  | [d] => { results := [.lit (.bool false)], args := [d] }
  | _ => none }
def FnExactFormulaOkWrongFalsely : Prop := fnExactFormulaOkRow.holds Try.pinned (OpenSpec.ofChange fnExactFormulaOkWrong)

/-- 'laws.FnExactSameCert': WHATEVER THE INPUT: true; the input reads as it did. -/
def fnExactSameCertSpec : ChangeSpec := { name := "fnExactSameCert", fn := fun _ => fun
  | [d1, d2] => { results := [.lit (.bool true)], args := [d1, d2] }
  | _ => none }
def fnExactSameCertRow : OpenClaim := { program := "ytacgmkncleiblaa", sum := "7f9746ad6412bf666a263da1b44e1d7c25617e130949968710b775d41b0103d0", func := "loop.example/g00871/laws.FnExactSameCert", spec := "fnExactSameCert", unfollowed := true, recurses := true, apart := false }
def FnExactSameCertSaid : Prop := fnExactSameCertRow.holds Try.pinned (OpenSpec.ofChange fnExactSameCertSpec)

/-- ITS FALSE NEIGHBOUR: 'it returns false'. Refute it at one input. -/
def fnExactSameCertWrong : ChangeSpec := { name := "fnExactSameCert", fn := fun _ => fun
  | [d1, d2] => { results := [.lit (.bool false)], args := [d1, d2] }
  | _ => none }
def FnExactSameCertWrongFalsely : Prop := fnExactSameCertRow.holds Try.pinned (OpenSpec.ofChange fnExactSameCertWrong)

/-- 'laws.FnExactNegatedOf': WHATEVER THE INPUT: true; the input reads as it did. -/
def fnExactNegatedOfSpec : ChangeSpec := { name := "fnExactNegatedOf", fn := fun _ => fun
  | [d] => { results := [.lit (.bool true)], args := [d] }
  | _ => none }
def fnExactNegatedOfRow : OpenClaim := { program := "ytacgmkncleiblaa", sum := "7f9746ad6412bf666a263da1b44e1d7c25617e130949968710b775d41b0103d0", func := "loop.example/g00871/laws.FnExactNegatedOf", spec := "fnExactNegatedOf", unfollowed := true, recurses := true, apart := false }
def FnExactNegatedOfSaid : Prop := fnExactNegatedOfRow.holds Try.pinned (OpenSpec.ofChange fnExactNegatedOfSpec)

/-- ITS FALSE NEIGHBOUR: 'it returns false'. Refute it at one input. -/
def fnExactNegatedOfWrong : ChangeSpec := { name := "fnExactNegatedOf", fn := fun _ => fun
  | [d] => { results := [.lit (.bool false)], args := [d] }
  | _ => none }
def FnExactNegatedOfWrongFalsely : Prop := fnExactNegatedOfRow.holds Try.pinned (OpenSpec.ofChange fnExactNegatedOfWrong)

/- THE SECOND FORM. 'bulk': how many values and letters a reading holds, each counted each time it is reached (what is shared counts as often as it is met; a slice's spare places count too). A statement '..UptoSaid' is the law's where the arguments, and the package variables that the reading takes, are together of bulk at most 1048576: NARROWER than '..Said'. Prove '..Said' where nothing that the law and all that it calls make is longer than what came in: it says more and counts as full. Else prove '..UptoSaid'. A law counts once. -/
mutual
def uptoBulk {H : Type} : DataW H → Nat
  | .lit (.string bytes) => bytes.length + 1
  | .lit _ => 1
  | .nil => 1
  | .ptr d => uptoBulk d + 1
  | .slice elems spare => uptoBulkAll elems + uptoBulkAll spare + 1
  | .agg parts => uptoBulkAll parts + 1
  | .iface _ d => uptoBulk d + 1
  | .map entries => uptoBulkEntries entries + 1
  | .held _ => 1
def uptoBulkAll {H : Type} : List (DataW H) → Nat
  | [] => 0
  | d :: r => uptoBulk d + uptoBulkAll r
def uptoBulkEntries {H : Type} : List (Lit × DataW H) → Nat
  | [] => 0
  | x :: r => uptoBulkEntry x + uptoBulkEntries r
def uptoBulkEntry {H : Type} : Lit × DataW H → Nat
  | (.string bytes, d) => bytes.length + uptoBulk d + 1
  | (_, d) => uptoBulk d + 1
 end
def uptoSmall : (H : Type) → List (DataW H) → Bool := fun _ ds => decide (uptoBulkAll ds ≤ 1048576)
def OpenSpec.upto (s : _root_.Go.ChangeSpec) : _root_.Go.OpenSpec := { _root_.Go.OpenSpec.ofChange s with cond := some uptoSmall }

/-- 'laws.FnExactLeastNames', WHERE WHAT IT READS IS OF BULK AT MOST 1048576: true; the input reads as it did. -/
def fnExactLeastNamesUptoRow : OpenClaim := { program := "ytacgmkncleiblaa", sum := "7f9746ad6412bf666a263da1b44e1d7c25617e130949968710b775d41b0103d0", func := "loop.example/g00871/laws.FnExactLeastNames", spec := "fnExactLeastNames", apart := false, narrowed := true }
def FnExactLeastNamesUptoSaid : Prop := fnExactLeastNamesUptoRow.holds Try.pinned (OpenSpec.upto fnExactLeastNamesSpec)

/-- 'laws.FnExactNamedFormula', WHERE WHAT IT READS IS OF BULK AT MOST 1048576: true; the input reads as it did. -/
def fnExactNamedFormulaUptoRow : OpenClaim := { program := "ytacgmkncleiblaa", sum := "7f9746ad6412bf666a263da1b44e1d7c25617e130949968710b775d41b0103d0", func := "loop.example/g00871/laws.FnExactNamedFormula", spec := "fnExactNamedFormula", apart := false, narrowed := true }
def FnExactNamedFormulaUptoSaid : Prop := fnExactNamedFormulaUptoRow.holds Try.pinned (OpenSpec.upto fnExactNamedFormulaSpec)

/-- 'laws.FnExactNumsParts', WHERE WHAT IT READS IS OF BULK AT MOST 1048576: true; the input reads as it did. -/
def fnExactNumsPartsUptoRow : OpenClaim := { program := "ytacgmkncleiblaa", sum := "7f9746ad6412bf666a263da1b44e1d7c25617e130949968710b775d41b0103d0", func := "loop.example/g00871/laws.FnExactNumsParts", spec := "fnExactNumsParts", apart := false, narrowed := true }
def FnExactNumsPartsUptoSaid : Prop := fnExactNumsPartsUptoRow.holds Try.pinned (OpenSpec.upto fnExactNumsPartsSpec)

/-- 'laws.FnExactFormulaOk', WHERE WHAT IT READS IS OF BULK AT MOST 1048576: true; the input reads as it did. -/
def fnExactFormulaOkUptoRow : OpenClaim := { program := "ytacgmkncleiblaa", sum := "7f9746ad6412bf666a263da1b44e1d7c25617e130949968710b775d41b0103d0", func := "loop.example/g00871/laws.FnExactFormulaOk", spec := "fnExactFormulaOk", unfollowed := true, recurses := true, apart := false, narrowed := true }
def FnExactFormulaOkUptoSaid : Prop := fnExactFormulaOkUptoRow.holds Try.pinned (OpenSpec.upto fnExactFormulaOkSpec)

/-- 'laws.FnExactSameCert', WHERE WHAT IT READS IS OF BULK AT MOST 1048576: true; the input reads as it did. -/
def fnExactSameCertUptoRow : OpenClaim := { program := "ytacgmkncleiblaa", sum := "7f9746ad6412bf666a263da1b44e1d7c25617e130949968710b775d41b0103d0", func := "loop.example/g00871/laws.FnExactSameCert", spec := "fnExactSameCert", unfollowed := true, recurses := true, apart := false, narrowed := true }
def FnExactSameCertUptoSaid : Prop := fnExactSameCertUptoRow.holds Try.pinned (OpenSpec.upto fnExactSameCertSpec)

/-- 'laws.FnExactNegatedOf', WHERE WHAT IT READS IS OF BULK AT MOST 1048576: true; the input reads as it did. -/
def fnExactNegatedOfUptoRow : OpenClaim := { program := "ytacgmkncleiblaa", sum := "7f9746ad6412bf666a263da1b44e1d7c25617e130949968710b775d41b0103d0", func := "loop.example/g00871/laws.FnExactNegatedOf", spec := "fnExactNegatedOf", unfollowed := true, recurses := true, apart := false, narrowed := true }
def FnExactNegatedOfUptoSaid : Prop := fnExactNegatedOfUptoRow.holds Try.pinned (OpenSpec.upto fnExactNegatedOfSpec)

end Rows
end Go.Proofs.Ytacgmkncleiblaa

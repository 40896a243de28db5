/-
  NARROWER THAN 'FOR EVERY INPUT', by the rows' own cells (each row's printed sentence says how): FnExactOuterIn: laid · FnExactLeastCrossings: laid · FnExactOuterRing: laid.
  DERIVED. THE GIVEN ROWS OF THIS SEAT. 3 by the template 'for every input the law returns true; each argument reads behind the call as it read before'; 0 by the template 'total and deterministic' (their statements: YtkhaolpofeehoaaDoorTotals.lean).
  GIVEN WITH THE SEED: the statements are not yours to turn. If you find one false, say at which input.
  Laid BY PROGRAM, IN A SANDBOX (cutbox-rows.mjs): the forced cells as the released guide's own fill.sh prints them over the translation d267d139e312d6e4… (all of the seat's roots in one cut). By AI agents, Wed Nov 11 2026. No macro, syntax, notation, axiom, sorry.
-/
import Derived.Test.YtkhaolpofeehoaaDoorChecked
import GoSem.Claim
import GoSem.ClaimJoined
import GoSem.ClaimMapViews
import Derived.JoinedTies
import Derived.KernelRfl
namespace Go.Proofs.YtkhaolpofeehoaaDoor
/- THE CELL 'sum', in the pinned program and in every row, IS THE sha256 OF THE DUMP (.gsa) THAT YtkhaolpofeehoaaDoorProg.lean LOADS. Nothing in Lean hashes anything: it is a label: what it is worth is what the hold of that sum in a sandbox is worth. -/
noncomputable def Tryd.pinned : Pinned := { name := "ytkhaolpofeehoaadoor", sum := "d267d139e312d6e494deedd77e1fc3106db636152bac394de7bf93d66f8ecb35", checked := Tryd.checked }
namespace Rows
def none {H : Type} : Left H := { results := [], args := [] }

/- WHAT THE LISTED PACKAGE-LEVEL VARIABLES READ AS WHEN THE CALL BEGINS. Each datum BY PROGRAM (the guide's laid-datum.mjs) off the statement by which the dump's own 'gosem.cut.vars' lays the variable. In a bare row this is a premise. The card (YtkhaolpofeehoaaDoorCards.lean) ties it to the program's text. -/
def laid_math_bits_deBruijn32tab {H : Type} : DataW H := .agg [.lit (.int .u8 0), .lit (.int .u8 1), .lit (.int .u8 28), .lit (.int .u8 2), .lit (.int .u8 29), .lit (.int .u8 14), .lit (.int .u8 24), .lit (.int .u8 3), .lit (.int .u8 30), .lit (.int .u8 22), .lit (.int .u8 20), .lit (.int .u8 15), .lit (.int .u8 25), .lit (.int .u8 17), .lit (.int .u8 4), .lit (.int .u8 8), .lit (.int .u8 31), .lit (.int .u8 27), .lit (.int .u8 13), .lit (.int .u8 23), .lit (.int .u8 21), .lit (.int .u8 19), .lit (.int .u8 16), .lit (.int .u8 7), .lit (.int .u8 26), .lit (.int .u8 12), .lit (.int .u8 18), .lit (.int .u8 6), .lit (.int .u8 11), .lit (.int .u8 5), .lit (.int .u8 10), .lit (.int .u8 9)]

/-- 'laws.FnExactOuterIn': WHATEVER THE INPUT: true; the input reads as it did. -/
def fnExactOuterInSpec : ChangeSpec := { name := "fnExactOuterIn", fn := fun _ => fun
  | [d] => { results := [.lit (.bool true)], args := [d] }
  | _ => none }
def fnExactOuterInRow : OpenClaim := { program := "ytkhaolpofeehoaadoor", sum := "d267d139e312d6e494deedd77e1fc3106db636152bac394de7bf93d66f8ecb35", func := "loop.example/g00871/laws.FnExactOuterIn", spec := "fnExactOuterIn", unfollowed := true, recurses := true, named := ["math/bits.deBruijn32tab"], apart := false, laid := [("math/bits.deBruijn32tab", laid_math_bits_deBruijn32tab)] }
def FnExactOuterInSaid : Prop := fnExactOuterInRow.holds Tryd.pinned (OpenSpec.ofChange fnExactOuterInSpec)

/-- ITS FALSE NEIGHBOUR: 'it returns false'. Refute it at one input. -/
def fnExactOuterInWrong : ChangeSpec := { name := "fnExactOuterIn", fn := fun _ => fun
  | [d] => { results := [.lit (.bool false)], args := [d] }
  | _ => none }
def FnExactOuterInWrongFalsely : Prop := fnExactOuterInRow.holds Tryd.pinned (OpenSpec.ofChange fnExactOuterInWrong)

/-- 'laws.FnExactLeastCrossings': WHATEVER THE INPUT: true; the input reads as it did. -/
def fnExactLeastCrossingsSpec : ChangeSpec := { name := "fnExactLeastCrossings", fn := fun _ => fun
  | [d] => { results := [.lit (.bool true)], args := [d] }
  | _ => none }
def fnExactLeastCrossingsRow : OpenClaim := { program := "ytkhaolpofeehoaadoor", sum := "d267d139e312d6e494deedd77e1fc3106db636152bac394de7bf93d66f8ecb35", func := "loop.example/g00871/laws.FnExactLeastCrossings", spec := "fnExactLeastCrossings", unfollowed := true, recurses := true, named := ["math/bits.deBruijn32tab"], apart := false, laid := [("math/bits.deBruijn32tab", laid_math_bits_deBruijn32tab)] }
def FnExactLeastCrossingsSaid : Prop := fnExactLeastCrossingsRow.holds Tryd.pinned (OpenSpec.ofChange fnExactLeastCrossingsSpec)

/-- ITS FALSE NEIGHBOUR: 'it returns false'. Refute it at one input. -/
def fnExactLeastCrossingsWrong : ChangeSpec := { name := "fnExactLeastCrossings", fn := fun _ => fun
  | [d] => { results := [.lit (.bool false)], args := [d] }
  | _ => none }
def FnExactLeastCrossingsWrongFalsely : Prop := fnExactLeastCrossingsRow.holds Tryd.pinned (OpenSpec.ofChange fnExactLeastCrossingsWrong)

/-- 'laws.FnExactOuterRing': WHATEVER THE INPUT: true; the input reads as it did. -/
def fnExactOuterRingSpec : ChangeSpec := { name := "fnExactOuterRing", fn := fun _ => fun
  | [d] => { results := [.lit (.bool true)], args := [d] }
  | _ => none }
def fnExactOuterRingRow : OpenClaim := { program := "ytkhaolpofeehoaadoor", sum := "d267d139e312d6e494deedd77e1fc3106db636152bac394de7bf93d66f8ecb35", func := "loop.example/g00871/laws.FnExactOuterRing", spec := "fnExactOuterRing", unfollowed := true, recurses := true, named := ["math/bits.deBruijn32tab"], apart := false, laid := [("math/bits.deBruijn32tab", laid_math_bits_deBruijn32tab)] }
def FnExactOuterRingSaid : Prop := fnExactOuterRingRow.holds Tryd.pinned (OpenSpec.ofChange fnExactOuterRingSpec)

/-- ITS FALSE NEIGHBOUR: 'it returns false'. Refute it at one input. -/
def fnExactOuterRingWrong : ChangeSpec := { name := "fnExactOuterRing", fn := fun _ => fun
  | [d] => { results := [.lit (.bool false)], args := [d] }
  | _ => none }
def FnExactOuterRingWrongFalsely : Prop := fnExactOuterRingRow.holds Tryd.pinned (OpenSpec.ofChange fnExactOuterRingWrong)

/- THE SECOND FORM. 'bulk': how many values and letters a reading holds, each counted each time it is reached (what is shared counts as often as it is met; a slice's spare places count too). A statement '..UptoSaid' is the law's where the arguments, and the package variables that the reading takes, are together of bulk at most 1048576: NARROWER than '..Said'. Prove '..Said' where nothing that the law and all that it calls make is longer than what came in: it says more and counts as full. Else prove '..UptoSaid'. A law counts once. -/
mutual
def uptoBulk {H : Type} : DataW H → Nat
  | .lit (.string bytes) => bytes.length + 1
  | .lit _ => 1
  | .nil => 1
  | .ptr d => uptoBulk d + 1
  | .slice elems spare => uptoBulkAll elems + uptoBulkAll spare + 1
  | .agg parts => uptoBulkAll parts + 1
  | .iface _ d => uptoBulk d + 1
  | .map entries => uptoBulkEntries entries + 1
  | .held _ => 1
def uptoBulkAll {H : Type} : List (DataW H) → Nat
  | [] => 0
  | d :: r => uptoBulk d + uptoBulkAll r
def uptoBulkEntries {H : Type} : List (Lit × DataW H) → Nat
  | [] => 0
  | x :: r => uptoBulkEntry x + uptoBulkEntries r
def uptoBulkEntry {H : Type} : Lit × DataW H → Nat
  | (.string bytes, d) => bytes.length + uptoBulk d + 1
  | (_, d) => uptoBulk d + 1
 end
def uptoSmall : (H : Type) → List (DataW H) → Bool := fun _ ds => decide (uptoBulkAll ds ≤ 1048576)
def OpenSpec.upto (s : _root_.Go.ChangeSpec) : _root_.Go.OpenSpec := { _root_.Go.OpenSpec.ofChange s with cond := some uptoSmall }

/-- 'laws.FnExactOuterIn', WHERE WHAT IT READS IS OF BULK AT MOST 1048576: true; the input reads as it did. -/
def fnExactOuterInUptoRow : OpenClaim := { program := "ytkhaolpofeehoaadoor", sum := "d267d139e312d6e494deedd77e1fc3106db636152bac394de7bf93d66f8ecb35", func := "loop.example/g00871/laws.FnExactOuterIn", spec := "fnExactOuterIn", unfollowed := true, recurses := true, named := ["math/bits.deBruijn32tab"], apart := false, laid := [("math/bits.deBruijn32tab", laid_math_bits_deBruijn32tab)], narrowed := true }
def FnExactOuterInUptoSaid : Prop := fnExactOuterInUptoRow.holds Tryd.pinned (OpenSpec.upto fnExactOuterInSpec)

/-- 'laws.FnExactLeastCrossings', WHERE WHAT IT READS IS OF BULK AT MOST 1048576: true; the input reads as it did. -/
def fnExactLeastCrossingsUptoRow : OpenClaim := { program := "ytkhaolpofeehoaadoor", sum := "d267d139e312d6e494deedd77e1fc3106db636152bac394de7bf93d66f8ecb35", func := "loop.example/g00871/laws.FnExactLeastCrossings", spec := "fnExactLeastCrossings", unfollowed := true, recurses := true, named := ["math/bits.deBruijn32tab"], apart := false, laid := [("math/bits.deBruijn32tab", laid_math_bits_deBruijn32tab)], narrowed := true }
def FnExactLeastCrossingsUptoSaid : Prop := fnExactLeastCrossingsUptoRow.holds Tryd.pinned (OpenSpec.upto fnExactLeastCrossingsSpec)

/-- 'laws.FnExactOuterRing', WHERE WHAT IT READS IS OF BULK AT MOST 1048576: true; the input reads as it did. -/
def fnExactOuterRingUptoRow : OpenClaim := { program := "ytkhaolpofeehoaadoor", sum := "d267d139e312d6e494deedd77e1fc3106db636152bac394de7bf93d66f8ecb35", func := "loop.example/g00871/laws.FnExactOuterRing", spec := "fnExactOuterRing", unfollowed := true, recurses := true, named := ["math/bits.deBruijn32tab"], apart := false, laid := [("math/bits.deBruijn32tab", laid_math_bits_deBruijn32tab)], narrowed := true }
def FnExactOuterRingUptoSaid : Prop := fnExactOuterRingUptoRow.holds Tryd.pinned (OpenSpec.upto fnExactOuterRingSpec)

end Rows
end Go.Proofs.YtkhaolpofeehoaaDoor

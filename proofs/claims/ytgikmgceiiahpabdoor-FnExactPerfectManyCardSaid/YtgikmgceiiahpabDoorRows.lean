/-
  NARROWER THAN 'FOR EVERY INPUT', by the rows' own cells (each row's printed sentence says how): FnExactCoverIn: laid · FnExactRulesMany: laid · FnExactMatchingsMany: laid · FnExactPerfectMany: laid.
  DERIVED. THE GIVEN ROWS OF THIS SEAT. 4 by the template 'for every input the law returns true; each argument reads behind the call as it read before'; 0 by the template 'total and deterministic' (their statements: YtgikmgceiiahpabDoorTotals.lean).
  GIVEN WITH THE SEED: the statements are not yours to turn. If you find one false, say at which input.
  Laid BY PROGRAM, IN A SANDBOX (cutbox-rows.mjs): the forced cells as the released guide's own fill.sh prints them over the translation ebb92de450241830… (all of the seat's roots in one cut). By AI agents, Wed Nov 11 2026. No macro, syntax, notation, axiom, sorry.
-/
import Derived.Test.YtgikmgceiiahpabDoorChecked
import GoSem.Claim
import GoSem.ClaimJoined
import GoSem.ClaimMapViews
import Derived.JoinedTies
import Derived.KernelRfl
namespace Go.Proofs.YtgikmgceiiahpabDoor
/- THE CELL 'sum', in the pinned program and in every row, IS THE sha256 OF THE DUMP (.gsa) THAT YtgikmgceiiahpabDoorProg.lean LOADS. Nothing in Lean hashes anything: it is a label: what it is worth is what the hold of that sum in a sandbox is worth. -/
noncomputable def Tryd.pinned : Pinned := { name := "ytgikmgceiiahpabdoor", sum := "ebb92de450241830b260e26ef812f80d6840458e2bb560ea06450edaa3bc1709", checked := Tryd.checked }
namespace Rows
def none {H : Type} : Left H := { results := [], args := [] }

/- WHAT THE LISTED PACKAGE-LEVEL VARIABLES READ AS WHEN THE CALL BEGINS. Each datum BY PROGRAM (the guide's laid-datum.mjs) off the statement by which the dump's own 'gosem.cut.vars' lays the variable. In a bare row this is a premise. The card (YtgikmgceiiahpabDoorCards.lean) ties it to the program's text. -/
def laid_math_bits_deBruijn32tab {H : Type} : DataW H := .agg [.lit (.int .u8 0), .lit (.int .u8 1), .lit (.int .u8 28), .lit (.int .u8 2), .lit (.int .u8 29), .lit (.int .u8 14), .lit (.int .u8 24), .lit (.int .u8 3), .lit (.int .u8 30), .lit (.int .u8 22), .lit (.int .u8 20), .lit (.int .u8 15), .lit (.int .u8 25), .lit (.int .u8 17), .lit (.int .u8 4), .lit (.int .u8 8), .lit (.int .u8 31), .lit (.int .u8 27), .lit (.int .u8 13), .lit (.int .u8 23), .lit (.int .u8 21), .lit (.int .u8 19), .lit (.int .u8 16), .lit (.int .u8 7), .lit (.int .u8 26), .lit (.int .u8 12), .lit (.int .u8 18), .lit (.int .u8 6), .lit (.int .u8 11), .lit (.int .u8 5), .lit (.int .u8 10), .lit (.int .u8 9)]

/-- 'laws.FnExactCoverIn': WHATEVER THE INPUT: true; the input reads as it did. -/
def fnExactCoverInSpec : ChangeSpec := { name := "fnExactCoverIn", fn := fun _ => fun
  | [d1, d2] => { results := [.lit (.bool true)], args := [d1, d2] }
  | _ => none }
def fnExactCoverInRow : OpenClaim := { program := "ytgikmgceiiahpabdoor", sum := "ebb92de450241830b260e26ef812f80d6840458e2bb560ea06450edaa3bc1709", func := "loop.example/g00871/laws.FnExactCoverIn", spec := "fnExactCoverIn", unfollowed := true, recurses := true, named := ["math/bits.deBruijn32tab"], apart := false, laid := [("math/bits.deBruijn32tab", laid_math_bits_deBruijn32tab)] }
def FnExactCoverInSaid : Prop := fnExactCoverInRow.holds Tryd.pinned (OpenSpec.ofChange fnExactCoverInSpec)

/-- ITS FALSE NEIGHBOUR: 'it returns false'. Refute it at one input. -/
def fnExactCoverInWrong : ChangeSpec := { name := "fnExactCoverIn", fn := fun _ => fun
  | [d1, d2] => { results := [.lit (.bool false)], args := [d1, d2] }
  | _ => none }
def FnExactCoverInWrongFalsely : Prop := fnExactCoverInRow.holds Tryd.pinned (OpenSpec.ofChange fnExactCoverInWrong)

/-- 'laws.FnExactRulesMany': WHATEVER THE INPUT: true; the input reads as it did. -/
def fnExactRulesManySpec : ChangeSpec := { name := "fnExactRulesMany", fn := fun _ => fun
  | [d] => { results := [.lit (.bool true)], args := [d] }
  | _ => none }
def fnExactRulesManyRow : OpenClaim := { program := "ytgikmgceiiahpabdoor", sum := "ebb92de450241830b260e26ef812f80d6840458e2bb560ea06450edaa3bc1709", func := "loop.example/g00871/laws.FnExactRulesMany", spec := "fnExactRulesMany", named := ["math/bits.deBruijn32tab"], apart := false, laid := [("math/bits.deBruijn32tab", laid_math_bits_deBruijn32tab)] }
def FnExactRulesManySaid : Prop := fnExactRulesManyRow.holds Tryd.pinned (OpenSpec.ofChange fnExactRulesManySpec)

/-- ITS FALSE NEIGHBOUR: 'it returns false'. Refute it at one input. -/
def fnExactRulesManyWrong : ChangeSpec := { name := "fnExactRulesMany", fn := fun _ => fun
  | [d] => { results := [.lit (.bool false)], args := [d] }
  | _ => none }
def FnExactRulesManyWrongFalsely : Prop := fnExactRulesManyRow.holds Tryd.pinned (OpenSpec.ofChange fnExactRulesManyWrong)

/-- 'laws.FnExactMatchingsMany': WHATEVER THE INPUT: true; the input reads as it did. -/
def fnExactMatchingsManySpec : ChangeSpec := { name := "fnExactMatchingsMany", fn := fun _ => fun
  | [d] => { results := [.lit (.bool true)], args := [d] }
  | _ => none }
def fnExactMatchingsManyRow : OpenClaim := { program := "ytgikmgceiiahpabdoor", sum := "ebb92de450241830b260e26ef812f80d6840458e2bb560ea06450edaa3bc1709", func := "loop.example/g00871/laws.FnExactMatchingsMany", spec := "fnExactMatchingsMany", unfollowed := true, recurses := true, named := ["math/bits.deBruijn32tab"], apart := false, laid := [("math/bits.deBruijn32tab", laid_math_bits_deBruijn32tab)] }
def FnExactMatchingsManySaid : Prop := fnExactMatchingsManyRow.holds Tryd.pinned (OpenSpec.ofChange fnExactMatchingsManySpec)

/-- ITS FALSE NEIGHBOUR: 'it returns false'. Refute it at one input. -/
def fnExactMatchingsManyWrong : ChangeSpec := { name := "fnExactMatchingsMany", fn := fun _ => fun
  | [d] => { results := [.lit (.bool false)], args := [d] }
  | _ => none }
def FnExactMatchingsManyWrongFalsely : Prop := fnExactMatchingsManyRow.holds Tryd.pinned (OpenSpec.ofChange fnExactMatchingsManyWrong)

/-- 'laws.FnExactPerfectMany': WHATEVER THE INPUT: true; the input reads as it did. -/
def fnExactPerfectManySpec : ChangeSpec := { name := "fnExactPerfectMany", fn := fun _ => fun
  | [d] => { results := [.lit (.bool true)], args := [d] }
  | _ => none }
def fnExactPerfectManyRow : OpenClaim := { program := "ytgikmgceiiahpabdoor", sum := "ebb92de450241830b260e26ef812f80d6840458e2bb560ea06450edaa3bc1709", func := "loop.example/g00871/laws.FnExactPerfectMany", spec := "fnExactPerfectMany", unfollowed := true, recurses := true, named := ["math/bits.deBruijn32tab"], apart := false, laid := [("math/bits.deBruijn32tab", laid_math_bits_deBruijn32tab)] }
def FnExactPerfectManySaid : Prop := fnExactPerfectManyRow.holds Tryd.pinned (OpenSpec.ofChange fnExactPerfectManySpec)

/-- ITS FALSE NEIGHBOUR: 'it returns false'. Refute it at one input. -/
def fnExactPerfectManyWrong : ChangeSpec := { name := "fnExactPerfectMany", fn := fun _ => fun
  | [d] => { results := [.lit (.bool false)], args := [d] }
  | _ => none }
def FnExactPerfectManyWrongFalsely : Prop := fnExactPerfectManyRow.holds Tryd.pinned (OpenSpec.ofChange fnExactPerfectManyWrong)

/- THE SECOND FORM. 'bulk': how many values and letters a reading holds, each counted each time it is reached (what is shared counts as often as it is met; a slice's spare places count too). A statement '..UptoSaid' is the law's where the arguments, and the package variables that the reading takes, are together of bulk at most 1048576: NARROWER than '..Said'. Prove '..Said' where nothing that the law and all that it calls make is longer than what came in: it says more and counts as full. Else prove '..UptoSaid'. A law counts once. -/
mutual
def uptoBulk {H : Type} : DataW H → Nat
  | .lit (.string bytes) => bytes.length + 1
  | .lit _ => 1
  | .nil => 1
  | .ptr d => uptoBulk d + 1
  | .slice elems spare => uptoBulkAll elems + uptoBulkAll spare + 1
  | .agg parts => uptoBulkAll parts + 1
  | .iface _ d => uptoBulk d + 1
  | .map entries => uptoBulkEntries entries + 1
  | .held _ => 1
def uptoBulkAll {H : Type} : List (DataW H) → Nat
  | [] => 0
  | d :: r => uptoBulk d + uptoBulkAll r
def uptoBulkEntries {H : Type} : List (Lit × DataW H) → Nat
  | [] => 0
  | x :: r => uptoBulkEntry x + uptoBulkEntries r
def uptoBulkEntry {H : Type} : Lit × DataW H → Nat
  | (.string bytes, d) => bytes.length + uptoBulk d + 1
  | (_, d) => uptoBulk d + 1
 end
def uptoSmall : (H : Type) → List (DataW H) → Bool := fun _ ds => decide (uptoBulkAll ds ≤ 1048576)
def OpenSpec.upto (s : _root_.Go.ChangeSpec) : _root_.Go.OpenSpec := { _root_.Go.OpenSpec.ofChange s with cond := some uptoSmall }

/-- 'laws.FnExactCoverIn', WHERE WHAT IT READS IS OF BULK AT MOST 1048576: true; the input reads as it did. -/
def fnExactCoverInUptoRow : OpenClaim := { program := "ytgikmgceiiahpabdoor", sum := "ebb92de450241830b260e26ef812f80d6840458e2bb560ea06450edaa3bc1709", func := "loop.example/g00871/laws.FnExactCoverIn", spec := "fnExactCoverIn", unfollowed := true, recurses := true, named := ["math/bits.deBruijn32tab"], apart := false, laid := [("math/bits.deBruijn32tab", laid_math_bits_deBruijn32tab)], narrowed := true }
def FnExactCoverInUptoSaid : Prop := fnExactCoverInUptoRow.holds Tryd.pinned (OpenSpec.upto fnExactCoverInSpec)

/-- 'laws.FnExactRulesMany', WHERE WHAT IT READS IS OF BULK AT MOST 1048576: true; the input reads as it did. -/
def fnExactRulesManyUptoRow : OpenClaim := { program := "ytgikmgceiiahpabdoor", sum := "ebb92de450241830b260e26ef812f80d6840458e2bb560ea06450edaa3bc1709", func := "loop.example/g00871/laws.FnExactRulesMany", spec := "fnExactRulesMany", named := ["math/bits.deBruijn32tab"], apart := false, laid := [("math/bits.deBruijn32tab", laid_math_bits_deBruijn32tab)], narrowed := true }
def FnExactRulesManyUptoSaid : Prop := fnExactRulesManyUptoRow.holds Tryd.pinned (OpenSpec.upto fnExactRulesManySpec)

/-- 'laws.FnExactMatchingsMany', WHERE WHAT IT READS IS OF BULK AT MOST 1048576: true; the input reads as it did. -/
def fnExactMatchingsManyUptoRow : OpenClaim := { program := "ytgikmgceiiahpabdoor", sum := "ebb92de450241830b260e26ef812f80d6840458e2bb560ea06450edaa3bc1709", func := "loop.example/g00871/laws.FnExactMatchingsMany", spec := "fnExactMatchingsMany", unfollowed := true, recurses := true, named := ["math/bits.deBruijn32tab"], apart := false, laid := [("math/bits.deBruijn32tab", laid_math_bits_deBruijn32tab)], narrowed := true }
def FnExactMatchingsManyUptoSaid : Prop := fnExactMatchingsManyUptoRow.holds Tryd.pinned (OpenSpec.upto fnExactMatchingsManySpec)

/-- 'laws.FnExactPerfectMany', WHERE WHAT IT READS IS OF BULK AT MOST 1048576: true; the input reads as it did. -/
def fnExactPerfectManyUptoRow : OpenClaim := { program := "ytgikmgceiiahpabdoor", sum := "ebb92de450241830b260e26ef812f80d6840458e2bb560ea06450edaa3bc1709", func := "loop.example/g00871/laws.FnExactPerfectMany", spec := "fnExactPerfectMany", unfollowed := true, recurses := true, named := ["math/bits.deBruijn32tab"], apart := false, laid := [("math/bits.deBruijn32tab", laid_math_bits_deBruijn32tab)], narrowed := true }
def FnExactPerfectManyUptoSaid : Prop := fnExactPerfectManyUptoRow.holds Tryd.pinned (OpenSpec.upto fnExactPerfectManySpec)

end Rows
end Go.Proofs.YtgikmgceiiahpabDoor

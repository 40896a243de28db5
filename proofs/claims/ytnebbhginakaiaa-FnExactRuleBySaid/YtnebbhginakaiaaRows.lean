/-
  No cell of these rows narrows 'for every input' (looked for: loops, veiled, ifaces, maps, wideKeys, modest, calm, conditions, laid).
  DERIVED. THE GIVEN ROWS OF THIS SEAT. 4 by the template 'for every input the law returns true; each argument reads behind the call as it read before'; 0 by the template 'total and deterministic' (their statements: YtnebbhginakaiaaTotals.lean).
  GIVEN WITH THE SEED: the statements are not yours to turn. If you find one false, say at which input.
  Laid BY PROGRAM, IN A SANDBOX (cutbox-rows.mjs): the forced cells as the released guide's own fill.sh prints them over the translation 98cf6179c68673c3… (all of the seat's roots in one cut). By AI agents, Wed Nov 11 2026. No macro, syntax, notation, axiom, sorry.
-/
import Derived.Test.YtnebbhginakaiaaChecked
import GoSem.Claim
import GoSem.ClaimJoined
import GoSem.ClaimMapViews
import Derived.JoinedTies
import Derived.KernelRfl
namespace Go.Proofs.Ytnebbhginakaiaa
/- THE CELL 'sum', in the pinned program and in every row, IS THE sha256 OF THE DUMP (.gsa) THAT YtnebbhginakaiaaProg.lean LOADS. Nothing in Lean hashes anything: it is a label: what it is worth is what the hold of that sum in a sandbox is worth. -/
noncomputable def Try.pinned : Pinned := { name := "ytnebbhginakaiaa", sum := "98cf6179c68673c33f3c34b7c4d5f78d4b736127a99dbb8e2ed4a38bd7ac7fdf", checked := Try.checked }
namespace Rows
def none {H : Type} : Left H := { results := [], args := [] }

/-- 'laws.FnExactStablesBy': WHATEVER THE INPUT: true; the input reads as it did. -/
def fnExactStablesBySpec : ChangeSpec := { name := "fnExactStablesBy", fn := fun _ => fun
  | [d1, d2] => { results := [.lit (.bool true)], args := [d1, d2] }
  | _ => none }
def fnExactStablesByRow : OpenClaim := { program := "ytnebbhginakaiaa", sum := "98cf6179c68673c33f3c34b7c4d5f78d4b736127a99dbb8e2ed4a38bd7ac7fdf", func := "loop.example/g00871/laws.FnExactStablesBy", spec := "fnExactStablesBy", unfollowed := true, recurses := true, plainKeys := false, apart := false }
def FnExactStablesBySaid : Prop := fnExactStablesByRow.holds Try.pinned (OpenSpec.ofChange fnExactStablesBySpec)

/-- ITS FALSE NEIGHBOUR: 'it returns false'. Refute it at one input. -/
def fnExactStablesByWrong : ChangeSpec := { name := "fnExactStablesBy", fn := fun _ => fun
  | [d1, d2] => { results := [.lit (.bool false)], args := [d1, d2] }
  | _ => none }
def FnExactStablesByWrongFalsely : Prop := fnExactStablesByRow.holds Try.pinned (OpenSpec.ofChange fnExactStablesByWrong)

/-- 'laws.FnExactHeaviestBy': WHATEVER THE INPUT: true; the input reads as it did. -/
def fnExactHeaviestBySpec : ChangeSpec := { name := "fnExactHeaviestBy", fn := fun _ => fun
  | [d1, d2, d3] => { results := [.lit (.bool true)], args := [d1, d2, d3] }
  | _ => none }
def fnExactHeaviestByRow : OpenClaim := { program := "ytnebbhginakaiaa", sum := "98cf6179c68673c33f3c34b7c4d5f78d4b736127a99dbb8e2ed4a38bd7ac7fdf", func := "loop.example/g00871/laws.FnExactHeaviestBy", spec := "fnExactHeaviestBy", unfollowed := true, recurses := true, plainKeys := false, apart := false }
def FnExactHeaviestBySaid : Prop := fnExactHeaviestByRow.holds Try.pinned (OpenSpec.ofChange fnExactHeaviestBySpec)

/-- ITS FALSE NEIGHBOUR: 'it returns false'. Refute it at one input. -/
def fnExactHeaviestByWrong : ChangeSpec := { name := "fnExactHeaviestBy", fn := fun _ => fun
  | [d1, d2, d3] => { results := [.lit (.bool false)], args := [d1, d2, d3] }
  | _ => none }
def FnExactHeaviestByWrongFalsely : Prop := fnExactHeaviestByRow.holds Try.pinned (OpenSpec.ofChange fnExactHeaviestByWrong)

/-- 'laws.FnExactCoverBy': WHATEVER THE INPUT: true; the input reads as it did. -/
def fnExactCoverBySpec : ChangeSpec := { name := "fnExactCoverBy", fn := fun _ => fun
  | [d1, d2] => { results := [.lit (.bool true)], args := [d1, d2] }
  | _ => none }
def fnExactCoverByRow : OpenClaim := { program := "ytnebbhginakaiaa", sum := "98cf6179c68673c33f3c34b7c4d5f78d4b736127a99dbb8e2ed4a38bd7ac7fdf", func := "loop.example/g00871/laws.FnExactCoverBy", spec := "fnExactCoverBy", unfollowed := true, recurses := true, plainKeys := false, apart := false }
def FnExactCoverBySaid : Prop := fnExactCoverByRow.holds Try.pinned (OpenSpec.ofChange fnExactCoverBySpec)

/-- ITS FALSE NEIGHBOUR: 'it returns false'. Refute it at one input. -/
def fnExactCoverByWrong : ChangeSpec := { name := "fnExactCoverBy", fn := fun _ => fun
  | [d1, d2] => { results := [.lit (.bool false)], args := [d1, d2] }
  | _ => none }
def FnExactCoverByWrongFalsely : Prop := fnExactCoverByRow.holds Try.pinned (OpenSpec.ofChange fnExactCoverByWrong)

/-- 'laws.FnExactRuleBy': WHATEVER THE INPUT: true; the input reads as it did. -/
def fnExactRuleBySpec : ChangeSpec := { name := "fnExactRuleBy", fn := fun _ => fun
  | [d1, d2] => { results := [.lit (.bool true)], args := [d1, d2] }
  | _ => none }
def fnExactRuleByRow : OpenClaim := { program := "ytnebbhginakaiaa", sum := "98cf6179c68673c33f3c34b7c4d5f78d4b736127a99dbb8e2ed4a38bd7ac7fdf", func := "loop.example/g00871/laws.FnExactRuleBy", spec := "fnExactRuleBy", unfollowed := true, recurses := true, plainKeys := false, apart := false }
def FnExactRuleBySaid : Prop := fnExactRuleByRow.holds Try.pinned (OpenSpec.ofChange fnExactRuleBySpec)

/-- ITS FALSE NEIGHBOUR: 'it returns false'. Refute it at one input. -/
def fnExactRuleByWrong : ChangeSpec := { name := "fnExactRuleBy", fn := fun _ => fun
  | [d1, d2] => { results := [.lit (.bool false)], args := [d1, d2] }
  | _ => none }
def FnExactRuleByWrongFalsely : Prop := fnExactRuleByRow.holds Try.pinned (OpenSpec.ofChange fnExactRuleByWrong)

/- THE SECOND FORM. 'bulk': how many values and letters a reading holds, each counted each time it is reached (what is shared counts as often as it is met; a slice's spare places count too). A statement '..UptoSaid' is the law's where the arguments, and the package variables that the reading takes, are together of bulk at most 1048576: NARROWER than '..Said'. Prove '..Said' where nothing that the law and all that it calls make is longer than what came in: it says more and counts as full. Else prove '..UptoSaid'. A law counts once. -/
mutual
def uptoBulk {H : Type} : DataW H → Nat
  | .lit (.string bytes) => bytes.length + 1
  | .lit _ => 1
  | .nil => 1
  | .ptr d => uptoBulk d + 1
  | .slice elems spare => uptoBulkAll elems + uptoBulkAll spare + 1
  | .agg parts => uptoBulkAll parts + 1
  | .iface _ d => uptoBulk d + 1
  | .map entries => uptoBulkEntries entries + 1
  | .held _ => 1
def uptoBulkAll {H : Type} : List (DataW H) → Nat
  | [] => 0
  | d :: r => uptoBulk d + uptoBulkAll r
def uptoBulkEntries {H : Type} : List (Lit × DataW H) → Nat
  | [] => 0
  | x :: r => uptoBulkEntry x + uptoBulkEntries r
def uptoBulkEntry {H : Type} : Lit × DataW H → Nat
  | (.string bytes, d) => bytes.length + uptoBulk d + 1
  | (_, d) => uptoBulk d + 1
 end
def uptoSmall : (H : Type) → List (DataW H) → Bool := fun _ ds => decide (uptoBulkAll ds ≤ 1048576)
def OpenSpec.upto (s : _root_.Go.ChangeSpec) : _root_.Go.OpenSpec := { _root_.Go.OpenSpec.ofChange s with cond := some uptoSmall }

/-- 'laws.FnExactStablesBy', WHERE WHAT IT READS IS OF BULK AT MOST 1048576: true; the input reads as it did. -/
def fnExactStablesByUptoRow : OpenClaim := { program := "ytnebbhginakaiaa", sum := "98cf6179c68673c33f3c34b7c4d5f78d4b736127a99dbb8e2ed4a38bd7ac7fdf", func := "loop.example/g00871/laws.FnExactStablesBy", spec := "fnExactStablesBy", unfollowed := true, recurses := true, plainKeys := false, apart := false, narrowed := true }
def FnExactStablesByUptoSaid : Prop := fnExactStablesByUptoRow.holds Try.pinned (OpenSpec.upto fnExactStablesBySpec)

/-- 'laws.FnExactHeaviestBy', WHERE WHAT IT READS IS OF BULK AT MOST 1048576: true; the input reads as it did. -/
def fnExactHeaviestByUptoRow : OpenClaim := { program := "ytnebbhginakaiaa", sum := "98cf6179c68673c33f3c34b7c4d5f78d4b736127a99dbb8e2ed4a38bd7ac7fdf", func := "loop.example/g00871/laws.FnExactHeaviestBy", spec := "fnExactHeaviestBy", unfollowed := true, recurses := true, plainKeys := false, apart := false, narrowed := true }
def FnExactHeaviestByUptoSaid : Prop := fnExactHeaviestByUptoRow.holds Try.pinned (OpenSpec.upto fnExactHeaviestBySpec)

/-- 'laws.FnExactCoverBy', WHERE WHAT IT READS IS OF BULK AT MOST 1048576: true; the input reads as it did. -/
def fnExactCoverByUptoRow : OpenClaim := { program := "ytnebbhginakaiaa", sum := "98cf6179c68673c33f3c34b7c4d5f78d4b736127a99dbb8e2ed4a38bd7ac7fdf", func := "loop.example/g00871/laws.FnExactCoverBy", spec := "fnExactCoverBy", unfollowed := true, recurses := true, plainKeys := false, apart := false, narrowed := true }
def FnExactCoverByUptoSaid : Prop := fnExactCoverByUptoRow.holds Try.pinned (OpenSpec.upto fnExactCoverBySpec)

/-- 'laws.FnExactRuleBy', WHERE WHAT IT READS IS OF BULK AT MOST 1048576: true; the input reads as it did. -/
def fnExactRuleByUptoRow : OpenClaim := { program := "ytnebbhginakaiaa", sum := "98cf6179c68673c33f3c34b7c4d5f78d4b736127a99dbb8e2ed4a38bd7ac7fdf", func := "loop.example/g00871/laws.FnExactRuleBy", spec := "fnExactRuleBy", unfollowed := true, recurses := true, plainKeys := false, apart := false, narrowed := true }
def FnExactRuleByUptoSaid : Prop := fnExactRuleByUptoRow.holds Try.pinned (OpenSpec.upto fnExactRuleBySpec)

end Rows
end Go.Proofs.Ytnebbhginakaiaa

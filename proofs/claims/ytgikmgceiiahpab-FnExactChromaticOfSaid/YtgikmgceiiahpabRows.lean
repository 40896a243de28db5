/-
  No cell of these rows narrows 'for every input' (looked for: loops, veiled, ifaces, maps, wideKeys, modest, calm, conditions, laid).
  DERIVED. THE GIVEN ROWS OF THIS SEAT. 2 by the template 'for every input the law returns true; each argument reads behind the call as it read before'; 0 by the template 'total and deterministic' (their statements: YtgikmgceiiahpabTotals.lean).
  GIVEN WITH THE SEED: the statements are not yours to turn. If you find one false, say at which input.
  Laid BY PROGRAM, IN A SANDBOX (cutbox-rows.mjs): the forced cells as the released guide's own fill.sh prints them over the translation e8ae95a41bb58306… (all of the seat's roots in one cut). By AI agents, Wed Nov 11 2026. No macro, syntax, notation, axiom, sorry.
-/
import Derived.Test.YtgikmgceiiahpabChecked
import GoSem.Claim
import GoSem.ClaimJoined
import GoSem.ClaimMapViews
import Derived.JoinedTies
import Derived.KernelRfl
namespace Go.Proofs.Ytgikmgceiiahpab
/- THE CELL 'sum', in the pinned program and in every row, IS THE sha256 OF THE DUMP (.gsa) THAT YtgikmgceiiahpabProg.lean LOADS. Nothing in Lean hashes anything: it is a label: what it is worth is what the hold of that sum in a sandbox is worth. -/
noncomputable def Try.pinned : Pinned := { name := "ytgikmgceiiahpab", sum := "e8ae95a41bb5830658e4e86eb03bc5688c122f40a92eb9c7d5de7f7c2355a67d", checked := Try.checked }
namespace Rows
def none {H : Type} : Left H := { results := [], args := [] }

/-- 'laws.FnExactChromaticOf': WHATEVER THE INPUT: true; the input reads as it did. -/
def fnExactChromaticOfSpec : ChangeSpec := { name := "fnExactChromaticOf", fn := fun _ => fun
  | [d] => { results := [.lit (.bool true)], args := [d] }
  | _ => none }
def fnExactChromaticOfRow : OpenClaim := { program := "ytgikmgceiiahpab", sum := "e8ae95a41bb5830658e4e86eb03bc5688c122f40a92eb9c7d5de7f7c2355a67d", func := "loop.example/g00871/laws.FnExactChromaticOf", spec := "fnExactChromaticOf", recurses := true, apart := false }
def FnExactChromaticOfSaid : Prop := fnExactChromaticOfRow.holds Try.pinned (OpenSpec.ofChange fnExactChromaticOfSpec)

/-- ITS FALSE NEIGHBOUR: 'it returns false'. Refute it at one input. -/
def fnExactChromaticOfWrong : ChangeSpec := { name := "fnExactChromaticOf", fn := fun _ => fun
  | [d] => { results := [.lit (.bool false)], args := [d] }
  | _ => none }
def FnExactChromaticOfWrongFalsely : Prop := fnExactChromaticOfRow.holds Try.pinned (OpenSpec.ofChange fnExactChromaticOfWrong)

/-- 'laws.FnExactTrailOk': WHATEVER THE INPUT: true; the input reads as it did. -/
def fnExactTrailOkSpec : ChangeSpec := { name := "fnExactTrailOk", fn := fun _ => fun
  | [d1, d2] => { results := [.lit (.bool true)], args := [d1, d2] }
  | _ => none }
def fnExactTrailOkRow : OpenClaim := { program := "ytgikmgceiiahpab", sum := "e8ae95a41bb5830658e4e86eb03bc5688c122f40a92eb9c7d5de7f7c2355a67d", func := "loop.example/g00871/laws.FnExactTrailOk", spec := "fnExactTrailOk", unfollowed := true, recurses := true, apart := false }
def FnExactTrailOkSaid : Prop := fnExactTrailOkRow.holds Try.pinned (OpenSpec.ofChange fnExactTrailOkSpec)

/-- ITS FALSE NEIGHBOUR: 'it returns false'. Refute it at one input. -/
def fnExactTrailOkWrong : ChangeSpec := { name := "fnExactTrailOk", fn := fun _ => fun
  | [d1, d2] => { results := [.lit (.bool false)], args := [d1, d2] }
  | _ => none }
def FnExactTrailOkWrongFalsely : Prop := fnExactTrailOkRow.holds Try.pinned (OpenSpec.ofChange fnExactTrailOkWrong)

/- THE SECOND FORM. 'bulk': how many values and letters a reading holds, each counted each time it is reached (what is shared counts as often as it is met; a slice's spare places count too). A statement '..UptoSaid' is the law's where the arguments, and the package variables that the reading takes, are together of bulk at most 1048576: NARROWER than '..Said'. Prove '..Said' where nothing that the law and all that it calls make is longer than what came in: it says more and counts as full. Else prove '..UptoSaid'. A law counts once. -/
mutual
def uptoBulk {H : Type} : DataW H → Nat
  | .lit (.string bytes) => bytes.length + 1
  | .lit _ => 1
  | .nil => 1
  | .ptr d => uptoBulk d + 1
  | .slice elems spare => uptoBulkAll elems + uptoBulkAll spare + 1
  | .agg parts => uptoBulkAll parts + 1
  | .iface _ d => uptoBulk d + 1
  | .map entries => uptoBulkEntries entries + 1
  | .held _ => 1
def uptoBulkAll {H : Type} : List (DataW H) → Nat
  | [] => 0
  | d :: r => uptoBulk d + uptoBulkAll r
def uptoBulkEntries {H : Type} : List (Lit × DataW H) → Nat
  | [] => 0
  | x :: r => uptoBulkEntry x + uptoBulkEntries r
def uptoBulkEntry {H : Type} : Lit × DataW H → Nat
  | (.string bytes, d) => bytes.length + uptoBulk d + 1
  | (_, d) => uptoBulk d + 1
 end
def uptoSmall : (H : Type) → List (DataW H) → Bool := fun _ ds => decide (uptoBulkAll ds ≤ 1048576)
def OpenSpec.upto (s : _root_.Go.ChangeSpec) : _root_.Go.OpenSpec := { _root_.Go.OpenSpec.ofChange s with cond := some uptoSmall }

/-- 'laws.FnExactChromaticOf', WHERE WHAT IT READS IS OF BULK AT MOST 1048576: true; the input reads as it did. -/
def fnExactChromaticOfUptoRow : OpenClaim := { program := "ytgikmgceiiahpab", sum := "e8ae95a41bb5830658e4e86eb03bc5688c122f40a92eb9c7d5de7f7c2355a67d", func := "loop.example/g00871/laws.FnExactChromaticOf", spec := "fnExactChromaticOf", recurses := true, apart := false, narrowed := true }
def FnExactChromaticOfUptoSaid : Prop := fnExactChromaticOfUptoRow.holds Try.pinned (OpenSpec.upto fnExactChromaticOfSpec)

/-- 'laws.FnExactTrailOk', WHERE WHAT IT READS IS OF BULK AT MOST 1048576: true; the input reads as it did. -/
def fnExactTrailOkUptoRow : OpenClaim := { program := "ytgikmgceiiahpab", sum := "e8ae95a41bb5830658e4e86eb03bc5688c122f40a92eb9c7d5de7f7c2355a67d", func := "loop.example/g00871/laws.FnExactTrailOk", spec := "fnExactTrailOk", unfollowed := true, recurses := true, apart := false, narrowed := true }
def FnExactTrailOkUptoSaid : Prop := fnExactTrailOkUptoRow.holds Try.pinned (OpenSpec.upto fnExactTrailOkSpec)

end Rows
end Go.Proofs.Ytgikmgceiiahpab

/-
  No cell of these rows narrows 'for every input' (looked for: loops, veiled, ifaces, maps, wideKeys, modest, calm, conditions, laid).
  DERIVED. THE GIVEN ROWS OF THIS SEAT. 3 by the template 'for every input the law returns true; each argument reads behind the call as it read before'; 0 by the template 'total and deterministic' (their statements: YthbmcbflnibpbacTotals.lean).
  GIVEN WITH THE SEED: the statements are not yours to turn. If you find one false, say at which input.
  Laid BY PROGRAM, IN A SANDBOX (cutbox-rows.mjs): the forced cells as the released guide's own fill.sh prints them over the translation 80e96d237392ab12… (all of the seat's roots in one cut). By AI agents, Wed Nov 11 2026. No macro, syntax, notation, axiom, sorry.
-/
import Derived.Test.YthbmcbflnibpbacChecked
import GoSem.Claim
import GoSem.ClaimJoined
import GoSem.ClaimMapViews
import Derived.JoinedTies
import Derived.KernelRfl
namespace Go.Proofs.Ythbmcbflnibpbac
/- THE CELL 'sum', in the pinned program and in every row, IS THE sha256 OF THE DUMP (.gsa) THAT YthbmcbflnibpbacProg.lean LOADS. Nothing in Lean hashes anything: it is a label: what it is worth is what the hold of that sum in a sandbox is worth. -/
noncomputable def Try.pinned : Pinned := { name := "ythbmcbflnibpbac", sum := "80e96d237392ab12c043a106c27887e1b70d0d8f9507fd9ab8888888a67b8856", checked := Try.checked }
namespace Rows
def none {H : Type} : Left H := { results := [], args := [] }

/-- 'laws.FnExactRingOk': WHATEVER THE INPUT: true; the input reads as it did. -/
def fnExactRingOkSpec : ChangeSpec := { name := "fnExactRingOk", fn := fun _ => fun
  | [d1, d2] => { results := [.lit (.bool true)], args := [d1, d2] }
  | _ => none }
def fnExactRingOkRow : OpenClaim := { program := "ythbmcbflnibpbac", sum := "80e96d237392ab12c043a106c27887e1b70d0d8f9507fd9ab8888888a67b8856", func := "loop.example/g00871/laws.FnExactRingOk", spec := "fnExactRingOk", unfollowed := true, recurses := true, apart := false }
def FnExactRingOkSaid : Prop := fnExactRingOkRow.holds Try.pinned (OpenSpec.ofChange fnExactRingOkSpec)

/-- ITS FALSE NEIGHBOUR: 'it returns false'. Refute it at one input. -/
def fnExactRingOkWrong : ChangeSpec := { name := "fnExactRingOk", fn := fun _ => fun
  | [d1, d2] => { results := [.lit (.bool false)], args := [d1, d2] }
  | _ => none }
def FnExactRingOkWrongFalsely : Prop := fnExactRingOkRow.holds Try.pinned (OpenSpec.ofChange fnExactRingOkWrong)

/-- 'laws.FnExactRoundOk': WHATEVER THE INPUT: true; the input reads as it did. -/
def fnExactRoundOkSpec : ChangeSpec := { name := "fnExactRoundOk", fn := fun _ => fun
  | [d1, d2] => { results := [.lit (.bool true)], args := [d1, d2] }
  | _ => none }
def fnExactRoundOkRow : OpenClaim := { program := "ythbmcbflnibpbac", sum := "80e96d237392ab12c043a106c27887e1b70d0d8f9507fd9ab8888888a67b8856", func := "loop.example/g00871/laws.FnExactRoundOk", spec := "fnExactRoundOk", unfollowed := true, recurses := true, apart := false }
def FnExactRoundOkSaid : Prop := fnExactRoundOkRow.holds Try.pinned (OpenSpec.ofChange fnExactRoundOkSpec)

/-- ITS FALSE NEIGHBOUR: 'it returns false'. Refute it at one input. -/
def fnExactRoundOkWrong : ChangeSpec := { name := "fnExactRoundOk", fn := fun _ => fun
  | [d1, d2] => { results := [.lit (.bool false)], args := [d1, d2] }
  | _ => none }
def FnExactRoundOkWrongFalsely : Prop := fnExactRoundOkRow.holds Try.pinned (OpenSpec.ofChange fnExactRoundOkWrong)

/-- 'laws.FnExactChordsCross': WHATEVER THE INPUT: true; the input reads as it did. -/
def fnExactChordsCrossSpec : ChangeSpec := { name := "fnExactChordsCross", fn := fun _ => fun
  | [d1, d2, d3, d4] => { results := [.lit (.bool true)], args := [d1, d2, d3, d4] }
  | _ => none }
def fnExactChordsCrossRow : OpenClaim := { program := "ythbmcbflnibpbac", sum := "80e96d237392ab12c043a106c27887e1b70d0d8f9507fd9ab8888888a67b8856", func := "loop.example/g00871/laws.FnExactChordsCross", spec := "fnExactChordsCross", unfollowed := true, recurses := true, apart := false }
def FnExactChordsCrossSaid : Prop := fnExactChordsCrossRow.holds Try.pinned (OpenSpec.ofChange fnExactChordsCrossSpec)

/-- ITS FALSE NEIGHBOUR: 'it returns false'. Refute it at one input. -/
def fnExactChordsCrossWrong : ChangeSpec := { name := "fnExactChordsCross", fn := fun _ => fun
  | [d1, d2, d3, d4] => { results := [.lit (.bool false)], args := [d1, d2, d3, d4] }
  | _ => none }
def FnExactChordsCrossWrongFalsely : Prop := fnExactChordsCrossRow.holds Try.pinned (OpenSpec.ofChange fnExactChordsCrossWrong)

/- THE SECOND FORM. 'bulk': how many values and letters a reading holds, each counted each time it is reached (what is shared counts as often as it is met; a slice's spare places count too). A statement '..UptoSaid' is the law's where the arguments, and the package variables that the reading takes, are together of bulk at most 1048576: NARROWER than '..Said'. Prove '..Said' where nothing that the law and all that it calls make is longer than what came in: it says more and counts as full. Else prove '..UptoSaid'. A law counts once. -/
mutual
def uptoBulk {H : Type} : DataW H → Nat
  | .lit (.string bytes) => bytes.length + 1
  | .lit _ => 1
  | .nil => 1
  | .ptr d => uptoBulk d + 1
  | .slice elems spare => uptoBulkAll elems + uptoBulkAll spare + 1
  | .agg parts => uptoBulkAll parts + 1
  | .iface _ d => uptoBulk d + 1
  | .map entries => uptoBulkEntries entries + 1
  | .held _ => 1
def uptoBulkAll {H : Type} : List (DataW H) → Nat
  | [] => 0
  | d :: r => uptoBulk d + uptoBulkAll r
def uptoBulkEntries {H : Type} : List (Lit × DataW H) → Nat
  | [] => 0
  | x :: r => uptoBulkEntry x + uptoBulkEntries r
def uptoBulkEntry {H : Type} : Lit × DataW H → Nat
  | (.string bytes, d) => bytes.length + uptoBulk d + 1
  | (_, d) => uptoBulk d + 1
 end
def uptoSmall : (H : Type) → List (DataW H) → Bool := fun _ ds => decide (uptoBulkAll ds ≤ 1048576)
def OpenSpec.upto (s : _root_.Go.ChangeSpec) : _root_.Go.OpenSpec := { _root_.Go.OpenSpec.ofChange s with cond := some uptoSmall }

/-- 'laws.FnExactRingOk', WHERE WHAT IT READS IS OF BULK AT MOST 1048576: true; the input reads as it did. -/
def fnExactRingOkUptoRow : OpenClaim := { program := "ythbmcbflnibpbac", sum := "80e96d237392ab12c043a106c27887e1b70d0d8f9507fd9ab8888888a67b8856", func := "loop.example/g00871/laws.FnExactRingOk", spec := "fnExactRingOk", unfollowed := true, recurses := true, apart := false, narrowed := true }
def FnExactRingOkUptoSaid : Prop := fnExactRingOkUptoRow.holds Try.pinned (OpenSpec.upto fnExactRingOkSpec)

/-- 'laws.FnExactRoundOk', WHERE WHAT IT READS IS OF BULK AT MOST 1048576: true; the input reads as it did. -/
def fnExactRoundOkUptoRow : OpenClaim := { program := "ythbmcbflnibpbac", sum := "80e96d237392ab12c043a106c27887e1b70d0d8f9507fd9ab8888888a67b8856", func := "loop.example/g00871/laws.FnExactRoundOk", spec := "fnExactRoundOk", unfollowed := true, recurses := true, apart := false, narrowed := true }
def FnExactRoundOkUptoSaid : Prop := fnExactRoundOkUptoRow.holds Try.pinned (OpenSpec.upto fnExactRoundOkSpec)

/-- 'laws.FnExactChordsCross', WHERE WHAT IT READS IS OF BULK AT MOST 1048576: true; the input reads as it did. -/
def fnExactChordsCrossUptoRow : OpenClaim := { program := "ythbmcbflnibpbac", sum := "80e96d237392ab12c043a106c27887e1b70d0d8f9507fd9ab8888888a67b8856", func := "loop.example/g00871/laws.FnExactChordsCross", spec := "fnExactChordsCross", unfollowed := true, recurses := true, apart := false, narrowed := true }
def FnExactChordsCrossUptoSaid : Prop := fnExactChordsCrossUptoRow.holds Try.pinned (OpenSpec.upto fnExactChordsCrossSpec)

end Rows
end Go.Proofs.Ythbmcbflnibpbac

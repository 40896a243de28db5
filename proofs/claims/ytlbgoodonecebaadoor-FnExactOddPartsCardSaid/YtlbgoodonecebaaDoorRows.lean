/-
  NARROWER THAN 'FOR EVERY INPUT', by the rows' own cells (each row's printed sentence says how): FnExactRoundsMany: laid · FnExactOddParts: laid · FnExactBestColours: laid · FnCritical: laid · FnExactCriticalIn: laid · FnExactBestMatch: laid.
  DERIVED. THE GIVEN ROWS OF THIS SEAT. 6 by the template 'for every input the law returns true; each argument reads behind the call as it read before'; 0 by the template 'total and deterministic' (their statements: YtlbgoodonecebaaDoorTotals.lean).
  GIVEN WITH THE SEED: the statements are not yours to turn. If you find one false, say at which input.
  Laid BY PROGRAM, IN A SANDBOX (cutbox-rows.mjs): the forced cells as the released guide's own fill.sh prints them over the translation c4b819364934caae… (all of the seat's roots in one cut). By AI agents, Wed Nov 11 2026. No macro, syntax, notation, axiom, sorry.
-/
import Derived.Test.YtlbgoodonecebaaDoorChecked
import GoSem.Claim
import GoSem.ClaimJoined
import GoSem.ClaimMapViews
import Derived.JoinedTies
import Derived.KernelRfl
namespace Go.Proofs.YtlbgoodonecebaaDoor
/- THE CELL 'sum', in the pinned program and in every row, IS THE sha256 OF THE DUMP (.gsa) THAT YtlbgoodonecebaaDoorProg.lean LOADS. Nothing in Lean hashes anything: it is a label: what it is worth is what the hold of that sum in a sandbox is worth. -/
noncomputable def Tryd.pinned : Pinned := { name := "ytlbgoodonecebaadoor", sum := "c4b819364934caaef63d1f314282b27a992db4bb1d2e82a5c0806078ef6d61f3", checked := Tryd.checked }
namespace Rows
def none {H : Type} : Left H := { results := [], args := [] }

/- WHAT THE LISTED PACKAGE-LEVEL VARIABLES READ AS WHEN THE CALL BEGINS. Each datum BY PROGRAM (the guide's laid-datum.mjs) off the statement by which the dump's own 'gosem.cut.vars' lays the variable. In a bare row this is a premise. The card (YtlbgoodonecebaaDoorCards.lean) ties it to the program's text. -/
def laid_math_bits_deBruijn32tab {H : Type} : DataW H := .agg [.lit (.int .u8 0), .lit (.int .u8 1), .lit (.int .u8 28), .lit (.int .u8 2), .lit (.int .u8 29), .lit (.int .u8 14), .lit (.int .u8 24), .lit (.int .u8 3), .lit (.int .u8 30), .lit (.int .u8 22), .lit (.int .u8 20), .lit (.int .u8 15), .lit (.int .u8 25), .lit (.int .u8 17), .lit (.int .u8 4), .lit (.int .u8 8), .lit (.int .u8 31), .lit (.int .u8 27), .lit (.int .u8 13), .lit (.int .u8 23), .lit (.int .u8 21), .lit (.int .u8 19), .lit (.int .u8 16), .lit (.int .u8 7), .lit (.int .u8 26), .lit (.int .u8 12), .lit (.int .u8 18), .lit (.int .u8 6), .lit (.int .u8 11), .lit (.int .u8 5), .lit (.int .u8 10), .lit (.int .u8 9)]

/-- 'laws.FnExactRoundsMany': WHATEVER THE INPUT: true; the input reads as it did. -/
def fnExactRoundsManySpec : ChangeSpec := { name := "fnExactRoundsMany", fn := fun _ => fun
  | [d] => { results := [.lit (.bool true)], args := [d] }
  | _ => none }
def fnExactRoundsManyRow : OpenClaim := { program := "ytlbgoodonecebaadoor", sum := "c4b819364934caaef63d1f314282b27a992db4bb1d2e82a5c0806078ef6d61f3", func := "loop.example/g00871/laws.FnExactRoundsMany", spec := "fnExactRoundsMany", named := ["math/bits.deBruijn32tab"], apart := false, laid := [("math/bits.deBruijn32tab", laid_math_bits_deBruijn32tab)] }
def FnExactRoundsManySaid : Prop := fnExactRoundsManyRow.holds Tryd.pinned (OpenSpec.ofChange fnExactRoundsManySpec)

/-- ITS FALSE NEIGHBOUR: 'it returns false'. Refute it at one input. -/
def fnExactRoundsManyWrong : ChangeSpec := { name := "fnExactRoundsMany", fn := fun _ => fun
  | [d] => { results := [.lit (.bool false)], args := [d] }
  | _ => none }
def FnExactRoundsManyWrongFalsely : Prop := fnExactRoundsManyRow.holds Tryd.pinned (OpenSpec.ofChange fnExactRoundsManyWrong)

/-- 'laws.FnExactOddParts': WHATEVER THE INPUT: true; the input reads as it did. -/
def fnExactOddPartsSpec : ChangeSpec := { name := "fnExactOddParts", fn := fun _ => fun
  | [d1, d2] => { results := [.lit (.bool true)], args := [d1, d2] }
  | _ => none }
def fnExactOddPartsRow : OpenClaim := { program := "ytlbgoodonecebaadoor", sum := "c4b819364934caaef63d1f314282b27a992db4bb1d2e82a5c0806078ef6d61f3", func := "loop.example/g00871/laws.FnExactOddParts", spec := "fnExactOddParts", named := ["math/bits.deBruijn32tab"], apart := false, laid := [("math/bits.deBruijn32tab", laid_math_bits_deBruijn32tab)] }
def FnExactOddPartsSaid : Prop := fnExactOddPartsRow.holds Tryd.pinned (OpenSpec.ofChange fnExactOddPartsSpec)

/-- ITS FALSE NEIGHBOUR: 'it returns false'. Refute it at one input. -/
def fnExactOddPartsWrong : ChangeSpec := { name := "fnExactOddParts", fn := fun _ => fun
  | [d1, d2] => { results := [.lit (.bool false)], args := [d1, d2] }
  | _ => none }
def FnExactOddPartsWrongFalsely : Prop := fnExactOddPartsRow.holds Tryd.pinned (OpenSpec.ofChange fnExactOddPartsWrong)

/-- 'laws.FnExactBestColours': WHATEVER THE INPUT: true; the input reads as it did. -/
def fnExactBestColoursSpec : ChangeSpec := { name := "fnExactBestColours", fn := fun _ => fun
  | [d] => { results := [.lit (.bool true)], args := [d] }
  | _ => none }
def fnExactBestColoursRow : OpenClaim := { program := "ytlbgoodonecebaadoor", sum := "c4b819364934caaef63d1f314282b27a992db4bb1d2e82a5c0806078ef6d61f3", func := "loop.example/g00871/laws.FnExactBestColours", spec := "fnExactBestColours", recurses := true, named := ["math/bits.deBruijn32tab"], apart := false, laid := [("math/bits.deBruijn32tab", laid_math_bits_deBruijn32tab)] }
def FnExactBestColoursSaid : Prop := fnExactBestColoursRow.holds Tryd.pinned (OpenSpec.ofChange fnExactBestColoursSpec)

/-- ITS FALSE NEIGHBOUR: 'it returns false'. Refute it at one input. -/
def fnExactBestColoursWrong : ChangeSpec := { name := "fnExactBestColours", fn := fun _ => fun
  | [d] => { results := [.lit (.bool false)], args := [d] }
  | _ => none }
def FnExactBestColoursWrongFalsely : Prop := fnExactBestColoursRow.holds Tryd.pinned (OpenSpec.ofChange fnExactBestColoursWrong)

/-- 'laws.FnCritical': WHATEVER THE INPUT: true; the input reads as it did. -/
def fnCriticalSpec : ChangeSpec := { name := "fnCritical", fn := fun _ => fun
  | [d] => { results := [.lit (.bool true)], args := [d] }
  | _ => none }
def fnCriticalRow : OpenClaim := { program := "ytlbgoodonecebaadoor", sum := "c4b819364934caaef63d1f314282b27a992db4bb1d2e82a5c0806078ef6d61f3", func := "loop.example/g00871/laws.FnCritical", spec := "fnCritical", recurses := true, named := ["math/bits.deBruijn32tab"], apart := false, laid := [("math/bits.deBruijn32tab", laid_math_bits_deBruijn32tab)] }
def FnCriticalSaid : Prop := fnCriticalRow.holds Tryd.pinned (OpenSpec.ofChange fnCriticalSpec)

/-- ITS FALSE NEIGHBOUR: 'it returns false'. Refute it at one input. -/
def fnCriticalWrong : ChangeSpec := { name := "fnCritical", fn := fun _ => fun
  | [d] => { results := [.lit (.bool false)], args := [d] }
  | _ => none }
def FnCriticalWrongFalsely : Prop := fnCriticalRow.holds Tryd.pinned (OpenSpec.ofChange fnCriticalWrong)

/-- 'laws.FnExactCriticalIn': WHATEVER THE INPUT: true; the input reads as it did. -/
def fnExactCriticalInSpec : ChangeSpec := { name := "fnExactCriticalIn", fn := fun _ => fun
  | [d] => { results := [.lit (.bool true)], args := [d] }
  | _ => none }
def fnExactCriticalInRow : OpenClaim := { program := "ytlbgoodonecebaadoor", sum := "c4b819364934caaef63d1f314282b27a992db4bb1d2e82a5c0806078ef6d61f3", func := "loop.example/g00871/laws.FnExactCriticalIn", spec := "fnExactCriticalIn", recurses := true, named := ["math/bits.deBruijn32tab"], apart := false, laid := [("math/bits.deBruijn32tab", laid_math_bits_deBruijn32tab)] }
def FnExactCriticalInSaid : Prop := fnExactCriticalInRow.holds Tryd.pinned (OpenSpec.ofChange fnExactCriticalInSpec)

/-- ITS FALSE NEIGHBOUR: 'it returns false'. Refute it at one input. -/
def fnExactCriticalInWrong : ChangeSpec := { name := "fnExactCriticalIn", fn := fun _ => fun
  | [d] => { results := [.lit (.bool false)], args := [d] }
  | _ => none }
def FnExactCriticalInWrongFalsely : Prop := fnExactCriticalInRow.holds Tryd.pinned (OpenSpec.ofChange fnExactCriticalInWrong)

/-- 'laws.FnExactBestMatch': WHATEVER THE INPUT: true; the input reads as it did. -/
def fnExactBestMatchSpec : ChangeSpec := { name := "fnExactBestMatch", fn := fun _ => fun
  | [d] => { results := [.lit (.bool true)], args := [d] }
  | _ => none }
def fnExactBestMatchRow : OpenClaim := { program := "ytlbgoodonecebaadoor", sum := "c4b819364934caaef63d1f314282b27a992db4bb1d2e82a5c0806078ef6d61f3", func := "loop.example/g00871/laws.FnExactBestMatch", spec := "fnExactBestMatch", unfollowed := true, recurses := true, named := ["math/bits.deBruijn32tab"], apart := false, laid := [("math/bits.deBruijn32tab", laid_math_bits_deBruijn32tab)] }
def FnExactBestMatchSaid : Prop := fnExactBestMatchRow.holds Tryd.pinned (OpenSpec.ofChange fnExactBestMatchSpec)

/-- ITS FALSE NEIGHBOUR: 'it returns false'. Refute it at one input. -/
def fnExactBestMatchWrong : ChangeSpec := { name := "fnExactBestMatch", fn := fun _ => fun
  | [d] => { results := [.lit (.bool false)], args := [d] }
  | _ => none }
def FnExactBestMatchWrongFalsely : Prop := fnExactBestMatchRow.holds Tryd.pinned (OpenSpec.ofChange fnExactBestMatchWrong)

/- THE SECOND FORM. 'bulk': how many values and letters a reading holds, each counted each time it is reached (what is shared counts as often as it is met; a slice's spare places count too). A statement '..UptoSaid' is the law's where the arguments, and the package variables that the reading takes, are together of bulk at most 1048576: NARROWER than '..Said'. Prove '..Said' where nothing that the law and all that it calls make is longer than what came in: it says more and counts as full. Else prove '..UptoSaid'. A law counts once. -/
mutual
def uptoBulk {H : Type} : DataW H → Nat
  | .lit (.string bytes) => bytes.length + 1
  | .lit _ => 1
  | .nil => 1
  | .ptr d => uptoBulk d + 1
  | .slice elems spare => uptoBulkAll elems + uptoBulkAll spare + 1
  | .agg parts => uptoBulkAll parts + 1
  | .iface _ d => uptoBulk d + 1
  | .map entries => uptoBulkEntries entries + 1
  | .held _ => 1
def uptoBulkAll {H : Type} : List (DataW H) → Nat
  | [] => 0
  | d :: r => uptoBulk d + uptoBulkAll r
def uptoBulkEntries {H : Type} : List (Lit × DataW H) → Nat
  | [] => 0
  | x :: r => uptoBulkEntry x + uptoBulkEntries r
def uptoBulkEntry {H : Type} : Lit × DataW H → Nat
  | (.string bytes, d) => bytes.length + uptoBulk d + 1
  | (_, d) => uptoBulk d + 1
 end
def uptoSmall : (H : Type) → List (DataW H) → Bool := fun _ ds => decide (uptoBulkAll ds ≤ 1048576)
def OpenSpec.upto (s : _root_.Go.ChangeSpec) : _root_.Go.OpenSpec := { _root_.Go.OpenSpec.ofChange s with cond := some uptoSmall }

/-- 'laws.FnExactRoundsMany', WHERE WHAT IT READS IS OF BULK AT MOST 1048576: true; the input reads as it did. -/
def fnExactRoundsManyUptoRow : OpenClaim := { program := "ytlbgoodonecebaadoor", sum := "c4b819364934caaef63d1f314282b27a992db4bb1d2e82a5c0806078ef6d61f3", func := "loop.example/g00871/laws.FnExactRoundsMany", spec := "fnExactRoundsMany", named := ["math/bits.deBruijn32tab"], apart := false, laid := [("math/bits.deBruijn32tab", laid_math_bits_deBruijn32tab)], narrowed := true }
def FnExactRoundsManyUptoSaid : Prop := fnExactRoundsManyUptoRow.holds Tryd.pinned (OpenSpec.upto fnExactRoundsManySpec)

/-- 'laws.FnExactOddParts', WHERE WHAT IT READS IS OF BULK AT MOST 1048576: true; the input reads as it did. -/
def fnExactOddPartsUptoRow : OpenClaim := { program := "ytlbgoodonecebaadoor", sum := "c4b819364934caaef63d1f314282b27a992db4bb1d2e82a5c0806078ef6d61f3", func := "loop.example/g00871/laws.FnExactOddParts", spec := "fnExactOddParts", named := ["math/bits.deBruijn32tab"], apart := false, laid := [("math/bits.deBruijn32tab", laid_math_bits_deBruijn32tab)], narrowed := true }
def FnExactOddPartsUptoSaid : Prop := fnExactOddPartsUptoRow.holds Tryd.pinned (OpenSpec.upto fnExactOddPartsSpec)

/-- 'laws.FnExactBestColours', WHERE WHAT IT READS IS OF BULK AT MOST 1048576: true; the input reads as it did. -/
def fnExactBestColoursUptoRow : OpenClaim := { program := "ytlbgoodonecebaadoor", sum := "c4b819364934caaef63d1f314282b27a992db4bb1d2e82a5c0806078ef6d61f3", func := "loop.example/g00871/laws.FnExactBestColours", spec := "fnExactBestColours", recurses := true, named := ["math/bits.deBruijn32tab"], apart := false, laid := [("math/bits.deBruijn32tab", laid_math_bits_deBruijn32tab)], narrowed := true }
def FnExactBestColoursUptoSaid : Prop := fnExactBestColoursUptoRow.holds Tryd.pinned (OpenSpec.upto fnExactBestColoursSpec)

/-- 'laws.FnCritical', WHERE WHAT IT READS IS OF BULK AT MOST 1048576: true; the input reads as it did. -/
def fnCriticalUptoRow : OpenClaim := { program := "ytlbgoodonecebaadoor", sum := "c4b819364934caaef63d1f314282b27a992db4bb1d2e82a5c0806078ef6d61f3", func := "loop.example/g00871/laws.FnCritical", spec := "fnCritical", recurses := true, named := ["math/bits.deBruijn32tab"], apart := false, laid := [("math/bits.deBruijn32tab", laid_math_bits_deBruijn32tab)], narrowed := true }
def FnCriticalUptoSaid : Prop := fnCriticalUptoRow.holds Tryd.pinned (OpenSpec.upto fnCriticalSpec)

/-- 'laws.FnExactCriticalIn', WHERE WHAT IT READS IS OF BULK AT MOST 1048576: true; the input reads as it did. -/
def fnExactCriticalInUptoRow : OpenClaim := { program := "ytlbgoodonecebaadoor", sum := "c4b819364934caaef63d1f314282b27a992db4bb1d2e82a5c0806078ef6d61f3", func := "loop.example/g00871/laws.FnExactCriticalIn", spec := "fnExactCriticalIn", recurses := true, named := ["math/bits.deBruijn32tab"], apart := false, laid := [("math/bits.deBruijn32tab", laid_math_bits_deBruijn32tab)], narrowed := true }
def FnExactCriticalInUptoSaid : Prop := fnExactCriticalInUptoRow.holds Tryd.pinned (OpenSpec.upto fnExactCriticalInSpec)

/-- 'laws.FnExactBestMatch', WHERE WHAT IT READS IS OF BULK AT MOST 1048576: true; the input reads as it did. -/
def fnExactBestMatchUptoRow : OpenClaim := { program := "ytlbgoodonecebaadoor", sum := "c4b819364934caaef63d1f314282b27a992db4bb1d2e82a5c0806078ef6d61f3", func := "loop.example/g00871/laws.FnExactBestMatch", spec := "fnExactBestMatch", unfollowed := true, recurses := true, named := ["math/bits.deBruijn32tab"], apart := false, laid := [("math/bits.deBruijn32tab", laid_math_bits_deBruijn32tab)], narrowed := true }
def FnExactBestMatchUptoSaid : Prop := fnExactBestMatchUptoRow.holds Tryd.pinned (OpenSpec.upto fnExactBestMatchSpec)

end Rows
end Go.Proofs.YtlbgoodonecebaaDoor

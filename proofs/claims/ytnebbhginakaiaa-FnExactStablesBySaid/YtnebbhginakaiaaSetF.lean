/- What the reference and the program ask of sets of vertices: stable, clique, ruling. -/
import Derived.Test.YtnebbhginakaiaaBitF
namespace Go.Proofs.Ytnebbhginakaiaa
def each (n s : Nat) (p : Nat → Bool) : Bool := (List.range n).all fun v => !s.testBit v || p v
theorem getD_get {a : List Nat} {v : Nat} (h : v < a.length) : a.getD v 0 = a[v] := by simp [h]
end Go.Proofs.Ytnebbhginakaiaa

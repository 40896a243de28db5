/- What the reference and the program ask of sets of vertices: stable, clique, ruling. -/
import Derived.Test.YtjcnkijmbjhcnaaBitF
namespace Go.Proofs.Ytjcnkijmbjhcnaa
def each (n s : Nat) (p : Nat → Bool) : Bool := (List.range n).all fun v => !s.testBit v || p v
end Go.Proofs.Ytjcnkijmbjhcnaa

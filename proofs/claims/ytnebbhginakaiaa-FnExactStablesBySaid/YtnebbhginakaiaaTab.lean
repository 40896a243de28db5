/- Tables over all sets: the value of a set out of those without its least member, and without a neighbour of it. -/
import Derived.Test.YtnebbhginakaiaaCount
namespace Go.Proofs.Ytnebbhginakaiaa
section
variable (a : List Nat) (e0 : Int) (of : Int → List Int → Int)
end
end Go.Proofs.Ytnebbhginakaiaa

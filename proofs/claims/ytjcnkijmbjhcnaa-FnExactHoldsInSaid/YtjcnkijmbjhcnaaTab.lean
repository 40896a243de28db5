/- Tables over all sets: the value of a set out of those without its least member, and without a neighbour of it. -/
import Derived.Test.YtjcnkijmbjhcnaaCount
namespace Go.Proofs.Ytjcnkijmbjhcnaa
section
variable (a : List Nat) (e0 : Int) (of : Int → List Int → Int)
end
def fact : Nat → Nat
  | 0 => 1
  | n + 1 => (n + 1) * fact n
end Go.Proofs.Ytjcnkijmbjhcnaa

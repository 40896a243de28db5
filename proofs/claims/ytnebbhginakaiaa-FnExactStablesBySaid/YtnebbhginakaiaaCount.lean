/- Counting sets: loops over all sets, one to one. -/
import Derived.Test.YtnebbhginakaiaaSetF
namespace Go.Proofs.Ytnebbhginakaiaa
theorem delbit_bit (t v j : Nat) : (sdiff t (2 ^ v)).testBit j = (t.testBit j && !decide (v = j)) := by rw [sdiff_bit, Nat.testBit_two_pow]
end Go.Proofs.Ytnebbhginakaiaa

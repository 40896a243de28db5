/- Is a number within bounds. -/
import Derived.Test.YtnebbhginakaiaaF
import Derived.Test.YtnebbhginakaiaaLib
namespace Go.Proofs.Ytnebbhginakaiaa
theorem in_eq (x a b : Int) : (if a ≤ x then some (decide (x ≤ b)) else some false) = some (decide (a ≤ x ∧ x ≤ b)) := by
  by_cases h : a ≤ x
  · rw [if_pos h]; simp [h]
  · rw [if_neg h]; simp [h]
theorem l1In_eq (x a b : Int) : F_spec_l1In x a b = some (decide (a ≤ x ∧ x ≤ b)) := in_eq x a b
theorem inRange_eq (x a b : Int) : F_impl_inRange x a b = some (decide (a ≤ x ∧ x ≤ b)) := in_eq x a b
end Go.Proofs.Ytnebbhginakaiaa

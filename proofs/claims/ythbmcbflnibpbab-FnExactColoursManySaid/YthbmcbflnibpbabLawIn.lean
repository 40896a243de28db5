/- Is a number within bounds. -/
import Derived.Test.YthbmcbflnibpbabF
import Derived.Test.YthbmcbflnibpbabLib
namespace Go.Proofs.Ythbmcbflnibpbab
theorem in_eq (x a b : Int) : (if a ≤ x then some (decide (x ≤ b)) else some false) = some (decide (a ≤ x ∧ x ≤ b)) := by
  by_cases h : a ≤ x
  · rw [if_pos h]; simp [h]
  · rw [if_neg h]; simp [h]
end Go.Proofs.Ythbmcbflnibpbab

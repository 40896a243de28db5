/- The laws' helpers over formulas: marks. -/
import Derived.Test.YtjcnkijmbjhcnaaLawCopy
namespace Go.Proofs.Ytjcnkijmbjhcnaa
theorem eqFormula_eq (a b : List (Int × Int × Int)) (h : a.length ≤ 1099511627776) : F_laws_eqFormula a b = some (decide (a = b)) := by
  unfold F_laws_eqFormula
  rw [cal_of (eqFactS_eq a b h)]
  by_cases e : a = b <;> simp [e]
end Go.Proofs.Ytjcnkijmbjhcnaa

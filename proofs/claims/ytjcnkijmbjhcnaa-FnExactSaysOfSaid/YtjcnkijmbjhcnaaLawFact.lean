/- The laws' helpers over formulas: marks. -/
import Derived.Test.YtjcnkijmbjhcnaaLawCopy
namespace Go.Proofs.Ytjcnkijmbjhcnaa
def marksF (k : Int) (n : Nat) : List (Int × Int × Int) := (List.range n).map fun (i : Nat) => (k + 3 * (i : Int), k + 3 * (i : Int) + 1, k + 3 * (i : Int) + 2)
theorem marksF_length (k : Int) (n : Nat) : (marksF k n).length = n := by simp [marksF]
theorem marksF_get (k : Int) (n i : Nat) (h : i < (marksF k n).length) : (marksF k n)[i] = (k + 3 * (i : Int), k + 3 * (i : Int) + 1, k + 3 * (i : Int) + 2) := by simp [marksF]
theorem marksF_succ (k : Int) (n : Nat) : marksF k (n + 1) = marksF k n ++ [(k + 3 * (n : Int), k + 3 * (n : Int) + 1, k + 3 * (n : Int) + 2)] := by simp [marksF, List.range_succ]
theorem eqFormula_eq (a b : List (Int × Int × Int)) (h : a.length ≤ 1099511627776) : F_laws_eqFormula a b = some (decide (a = b)) := by
  unfold F_laws_eqFormula
  rw [cal_of (eqFactS_eq a b h)]
  by_cases e : a = b <;> simp [e]
end Go.Proofs.Ytjcnkijmbjhcnaa

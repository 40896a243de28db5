/- The laws' helpers on sizes: what is left of a budget. -/
import Derived.Test.YtadjcnllmkdgiaaDoorF
import Derived.Test.YtadjcnllmkdgiaaDoorLoops
namespace Go.Proofs.YtadjcnllmkdgiaaDoor
/-- the budget n less m, or -1 -/
def less (n m : Int) : Int := if n - m < 0 then -1 else n - m
theorem less_neg {n m : Int} : less n m < 0 ↔ n < m := by unfold less; split <;> omega
theorem less_of {n m : Int} (h : m ≤ n) : less n m = n - m := by unfold less; rw [if_neg (by omega)]
theorem inI_less {n : Int} {m : Nat} (h0 : 0 ≤ n) (h1 : n ≤ 1048576) (hm : m ≤ 9223372036854775807) : InI (n - m) := by unfold InI; omega
end Go.Proofs.YtadjcnllmkdgiaaDoor

/- The laws' helpers: copies and comparisons. -/
import Derived.Test.YtbcjeljppgojgaaDoorF
import Derived.Test.YtbcjeljppgojgaaDoorLoops
namespace Go.Proofs.YtbcjeljppgojgaaDoor
theorem toInt64S_eq (a : List Int) (h : a.length ≤ 1099511627776) : F_laws_toInt64S a = some a := by
  unfold F_laws_toInt64S
  have := copy_loop (step := fun s => F_laws_toInt64S_l1 a s.1 s.2) a (0 : Int) some id (fun _ => rfl) h (fun _ _ => rfl)
  rw [List.map_id] at this; exact this
theorem eqInt64S_eq (a b : List Int) (h : a.length ≤ 1099511627776) : F_laws_eqInt64S a b = some (decide (a = b)) := by
  unfold F_laws_eqInt64S
  exact eqI_loop (step := fun s => F_laws_eqInt64S_l1 a b s) a b (fun _ => rfl) h
end Go.Proofs.YtbcjeljppgojgaaDoor

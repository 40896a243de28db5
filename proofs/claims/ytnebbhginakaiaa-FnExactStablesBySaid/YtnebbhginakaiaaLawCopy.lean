/- The laws' helpers: copies and comparisons. -/
import Derived.Test.YtnebbhginakaiaaF
import Derived.Test.YtnebbhginakaiaaLoops
namespace Go.Proofs.Ytnebbhginakaiaa
theorem toInt64S_eq (a : List Int) (h : a.length ≤ 1099511627776) : F_laws_toInt64S a = some a := by
  unfold F_laws_toInt64S
  have := copy_loop (step := fun s => F_laws_toInt64S_l1 a s.1 s.2) a (0 : Int) some id (fun _ => rfl) h (fun _ _ => rfl)
  rw [List.map_id] at this; exact this
theorem toInt64SS_eq (a : List (List Int)) (h : a.length ≤ 1099511627776) (h' : ∀ x ∈ a, x.length ≤ 1099511627776) : F_laws_toInt64SS a = some a := by
  unfold F_laws_toInt64SS
  have := copy_loop (step := fun s => F_laws_toInt64SS_l1 a s.1 s.2) a ([] : List Int) F_laws_toInt64S id (fun _ => rfl) h (fun x hx => toInt64S_eq x (h' x hx))
  rw [List.map_id] at this; exact this
theorem eqInt64S_eq (a b : List Int) (h : a.length ≤ 1099511627776) : F_laws_eqInt64S a b = some (decide (a = b)) := by
  unfold F_laws_eqInt64S
  exact eqI_loop (step := fun s => F_laws_eqInt64S_l1 a b s) a b (fun _ => rfl) h
theorem eqInt64SS_eq (a b : List (List Int)) (h : a.length ≤ 1099511627776) (h' : ∀ x ∈ a, x.length ≤ 1099511627776) : F_laws_eqInt64SS a b = some (decide (a = b)) := by
  unfold F_laws_eqInt64SS
  exact eq_loop (step := fun s => F_laws_eqInt64SS_l1 a b s) a b F_laws_eqInt64S (fun _ => rfl) h (fun x hx y _ => eqInt64S_eq x y (h' x hx))
theorem l1Same_eq (a b : List Int) (h : a.length ≤ 1099511627776) : F_spec_l1Same a b = some (decide (a = b)) := by
  unfold F_spec_l1Same
  exact eqI_loop (step := fun s => F_spec_l1Same_l1 a b s) a b (fun _ => rfl) h
end Go.Proofs.Ytnebbhginakaiaa

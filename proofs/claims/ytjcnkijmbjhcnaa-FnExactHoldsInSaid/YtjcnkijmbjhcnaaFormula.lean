/- Which formulas are well formed: spec and impl say the same. -/
import Derived.Test.YtjcnkijmbjhcnaaLawSz
import Derived.Test.YtjcnkijmbjhcnaaLawCopy
import Derived.Test.YtjcnkijmbjhcnaaLawIn
namespace Go.Proofs.Ytjcnkijmbjhcnaa
def factOk (k : Int) (x : Int × Int × Int) : Bool :=
  if x.1 = 1 ∨ x.1 = 2 then decide (0 ≤ x.2.1 ∧ x.2.1 ≤ 2) && decide (0 ≤ x.2.2 ∧ x.2.2 ≤ 2)
  else if x.1 = 3 then decide (0 ≤ x.2.1 ∧ x.2.1 ≤ 2) && decide (0 ≤ x.2.2 ∧ x.2.2 ≤ 1)
  else if x.1 = 4 then decide (0 ≤ x.2.1 ∧ x.2.1 ≤ k - 1) && decide (x.2.2 = 0)
  else if x.1 = 5 ∨ x.1 = 6 then decide (0 ≤ x.2.1 ∧ x.2.1 ≤ k - 1) && decide (0 ≤ x.2.2 ∧ x.2.2 ≤ k - 1)
  else if x.1 = 7 then decide (0 ≤ x.2.1 ∧ x.2.1 ≤ 2) && decide (0 ≤ x.2.2 ∧ x.2.2 ≤ k - 1)
  else if x.1 = 8 then decide (0 ≤ x.2.1 ∧ x.2.1 ≤ 1) && decide (0 ≤ x.2.2 ∧ x.2.2 ≤ k - 1)
  else false
theorem if_and (p q : Bool) : (if p = true then some q else some false : Option Bool) = some (p && q) := by cases p <;> rfl
theorem specFact_eq (x : Int × Int × Int) (k : Int) (h0 : 0 ≤ k) (h1 : k ≤ 1048576) : F_spec_l30Fact x.1 x.2.1 x.2.2 k = some (factOk k x) := by
  obtain ⟨a, b, c⟩ := x
  have hk : InI (k - 1) := inI (by omega) (by omega)
  unfold F_spec_l30Fact F_spec_l30Fact_k1 F_spec_l30Fact_k2 F_spec_l30Name F_spec_l30SetName factOk
  simp only [ck_of hk, l1In_eq, cal_some_eq, if_and]
  by_cases e1 : a = 1
  · simp [e1]
  by_cases e2 : a = 2
  · simp [e2]
  by_cases e3 : a = 3
  · simp [e3]
  by_cases e4 : a = 4
  · simp [e4]
  by_cases e5 : a = 5
  · simp [e5]
  by_cases e6 : a = 6
  · simp [e6]
  by_cases e7 : a = 7
  · simp [e7]
  by_cases e8 : a = 8
  · simp [e8]
  simp [e1, e2, e3, e4, e5, e6, e7, e8]
theorem goodFact_eq (x : Int × Int × Int) (k : Int) (h0 : 0 ≤ k) (h1 : k ≤ 1048576) : F_impl_goodFact x.1 x.2.1 x.2.2 k = some (factOk k x) := by
  obtain ⟨a, b, c⟩ := x
  have hk : InI (k - 1) := inI (by omega) (by omega)
  unfold F_impl_goodFact F_impl_goodFact_k1 F_impl_goodFact_k2 F_impl_goodFact_1 F_impl_goodFact_2 F_impl_goodFact_3 factOk
  simp only [ck_of hk, inRange_eq, cal_some_eq, if_and]
  by_cases e1 : a = 1
  · simp [e1]
  by_cases e2 : a = 2
  · simp [e2]
  by_cases e3 : a = 3
  · simp [e3]
  by_cases e4 : a = 4
  · simp [e4]
  by_cases e5 : a = 5
  · simp [e5]
  by_cases e6 : a = 6
  · simp [e6]
  by_cases e7 : a = 7
  · simp [e7]
  by_cases e8 : a = 8
  · simp [e8]
  simp [e1, e2, e3, e4, e5, e6, e7, e8]
def formulaOk (a : List (Int × Int × Int)) : Bool := decide (1 ≤ a.length ∧ a.length ≤ 40) && decide (∀ (k : Nat) (h : k < a.length), factOk k a[k] = true)
theorem specFormulaOk_eq (a : List (Int × Int × Int)) (h : a.length ≤ 1048576) : F_spec_FormulaOk a = some (formulaOk a) := by
  unfold F_spec_FormulaOk formulaOk
  rw [cal_of (l1In_eq _ _ _)]
  by_cases h1 : 1 ≤ a.length ∧ a.length ≤ 40
  · rw [if_neg (by simp; omega), decide_eq_true h1, Bool.true_and]
    exact all_loop (step := fun s => F_spec_FormulaOk_l1 a s) a (fun i x => F_spec_l30Fact x.1 x.2.1 x.2.2 i) factOk (fun _ => rfl) (by omega) (fun k hk => specFact_eq _ _ (by omega) (by omega))
  · rw [if_pos (by simp; omega), decide_eq_false h1, Bool.false_and]
theorem implFormulaOk_eq (a : List (Int × Int × Int)) (h : a.length ≤ 1048576) : F_impl_FormulaOk a = some (formulaOk a) := by
  unfold F_impl_FormulaOk formulaOk
  by_cases h1 : 1 ≤ a.length ∧ a.length ≤ 40
  · rw [if_neg (by omega), if_neg (by omega), decide_eq_true h1, Bool.true_and]
    exact all_loop (step := fun s => F_impl_FormulaOk_l1 a s) a (fun i x => F_impl_goodFact x.1 x.2.1 x.2.2 i) factOk (fun _ => rfl) (by omega) (fun k hk => goodFact_eq _ _ (by omega) (by omega))
  · rw [decide_eq_false h1, Bool.false_and]
    by_cases h2 : (a.length : Int) < 1
    · rw [if_pos h2]
    · rw [if_neg h2, if_pos (by omega)]
end Go.Proofs.Ytjcnkijmbjhcnaa

/- FnExactNegatedOf: the plain law. -/
import Derived.Test.YtacgmkncleiblaaFormula
import Derived.Test.YtacgmkncleiblaaLawFact
namespace Go.Proofs.Ytacgmkncleiblaa
/-- the formula with a negation behind it, where there is room -/
def negOf (a : List (Int × Int × Int)) : List (Int × Int × Int) × Bool :=
  if formulaOk a = true ∧ a.length ≠ 40 then (a ++ [(4, (a.length : Int) - 1, 0)], true) else ([], false)
theorem formulaOk_le {a : List (Int × Int × Int)} (h : formulaOk a = true) : a.length ≤ 40 := by
  unfold formulaOk at h
  rw [Bool.and_eq_true, decide_eq_true_eq] at h
  exact h.1.2
theorem specNeg_eq (a : List (Int × Int × Int)) (h : a.length ≤ 1048576) : F_spec_NegatedOf a = some (negOf a) := by
  unfold F_spec_NegatedOf negOf
  rw [cal_of (specFormulaOk_eq a h)]
  by_cases h1 : formulaOk a = true
  · have := formulaOk_le h1
    rw [if_neg (by simp [h1])]
    by_cases h2 : a.length = 40
    · rw [if_pos (by omega), if_neg (by simp [h2])]
    · rw [if_neg (by omega), app_of (by simp [lim]; omega), ck_of (inI (by omega) (by omega)), app_of (by simp [lim]; omega), if_pos ⟨h1, h2⟩]; rfl
  · rw [if_pos h1, if_neg (by simp [h1])]
theorem implNeg_eq (a : List (Int × Int × Int)) (h : a.length ≤ 1048576) : F_impl_NegatedOf a = some (negOf a) := by
  unfold F_impl_NegatedOf negOf
  rw [cal_of (implFormulaOk_eq a h)]
  by_cases h1 : formulaOk a = true
  · have := formulaOk_le h1
    rw [if_neg (by simp [h1])]
    by_cases h2 : a.length = 40
    · rw [if_pos (by omega), if_neg (by simp [h2])]
    · unfold F_slices_Clone_implFact
      rw [if_neg (by omega), app_of (by simp [lim]; omega), cal_some_eq, ck_of (inI (by omega) (by omega)), app_of (by simp [lim]; omega), if_pos ⟨h1, h2⟩]; rfl
  · rw [if_pos h1, if_neg (by simp [h1])]
theorem negOf_len (a : List (Int × Int × Int)) : (negOf a).1.length ≤ 41 := by
  unfold negOf
  split
  · rename_i h; have := formulaOk_le h.1; simp; omega
  · simp
theorem T_FnExactNegatedOf (a : List (Int × Int × Int)) (ha : Sz.ok a) : F_laws_FnExactNegatedOf a = some true := by
  unfold F_laws_FnExactNegatedOf F_laws_szFormula
  rw [szFactS_eq a 1048576 (by omega) (by omega) ha]
  have hl := less_neg (n := 1048576) (m := (a.length : Int))
  by_cases h : less 1048576 (a.length : Int) < 0
  · rw [cal_some_eq, if_pos h]; rfl
  · have hle : a.length ≤ 1048576 := by omega
    have hto : F_laws_toFormula a = some a := by unfold F_laws_toFormula; rw [toFactS_eq a (by omega)]; rfl
    have hnl := negOf_len a
    have he : F_laws_eqFormula (negOf a).1 (negOf a).1 = some true := by rw [eqFormula_eq _ _ (by omega)]; simp
    have hea : F_laws_eqFormula a a = some true := by rw [eqFormula_eq _ _ (by omega)]; simp
    have hma := markFormula_eq a 1 (by omega) (by omega) (by omega)
    have hm := markFormula_eq (negOf a).1 1 (by omega) (by omega) (by omega)
    have hh := heldFormula_marks 1 (negOf a).1.length (by omega) (by omega) (by omega)
    rw [cal_some_eq, if_neg h, cal_some_eq, if_neg h, cal_of hto, cal_of (specNeg_eq a hle), cal_of hto, cal_of (implNeg_eq a hle), cal_of he, if_neg (by simp), if_neg (by simp), cal_of hto, cal_of hea, if_neg (by simp), cal_of hma,
      if_neg (by simp only; omega), cal_of he, if_neg (by simp), if_neg (by simp), cal_of hm]
    simp only
    rw [cal_of hh, if_neg (by omega), if_neg (by simp), cal_of hto, cal_of (implNeg_eq a hle), cal_of he, if_neg (by simp), if_neg (by simp), cal_of hh, if_neg (by omega), if_neg (by simp)]
end Go.Proofs.Ytacgmkncleiblaa

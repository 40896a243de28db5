/- FnExactNamedFormula: the plain law. -/
import Derived.Test.YtacgmkncleiblaaLawFact
namespace Go.Proofs.Ytacgmkncleiblaa
theorem specNamed_eq (k : Int) : F_spec_NamedFormula k = F_impl_NamedFormula k := by
  by_cases hk : 0 ≤ k ∧ k ≤ 4
  · have : k = 0 ∨ k = 1 ∨ k = 2 ∨ k = 3 ∨ k = 4 := by omega
    unfold F_spec_NamedFormula
    rcases this with rfl | rfl | rfl | rfl | rfl
    · rw [ck_of (by decide), cal_of (show F_spec_l1In _ _ _ = some true from rfl), if_neg (by simp), bnd_l (lp_of (n := 20) rfl)]; rfl
    · rw [ck_of (by decide), cal_of (show F_spec_l1In _ _ _ = some true from rfl), if_neg (by simp), bnd_l (lp_of (n := 20) rfl)]; rfl
    · rw [ck_of (by decide), cal_of (show F_spec_l1In _ _ _ = some true from rfl), if_neg (by simp), bnd_l (lp_of (n := 20) rfl)]; rfl
    · rw [ck_of (by decide), cal_of (show F_spec_l1In _ _ _ = some true from rfl), if_neg (by simp), bnd_l (lp_of (n := 20) rfl)]; rfl
    · rw [ck_of (by decide), cal_of (show F_spec_l1In _ _ _ = some true from rfl), if_neg (by simp), bnd_l (lp_of (n := 20) rfl)]; rfl
  · have hin : F_spec_l1In k 0 4 = some false := by
      unfold F_spec_l1In
      by_cases h : 0 ≤ k
      · rw [if_pos h, decide_eq_false (by omega)]
      · rw [if_neg h]
    unfold F_spec_NamedFormula
    rw [ck_of (by decide)]
    refine Eq.trans (cal_of (x := false) hin) ?_
    rw [if_pos (by simp)]
    unfold F_impl_NamedFormula
    rw [if_neg (by omega), if_neg (by omega), if_neg (by omega), if_neg (by omega), if_neg (by omega)]
theorem implNamed_some (k : Int) : ∃ l b, F_impl_NamedFormula k = some (l, b) ∧ l.length ≤ 40 := by
  unfold F_impl_NamedFormula
  repeat' split
  all_goals exact ⟨_, _, rfl, by decide⟩
theorem T_FnExactNamedFormula (k : Int) (hk : Sz.ok k) : F_laws_FnExactNamedFormula k = some true := by
  obtain ⟨l, b, h, hl⟩ := implNamed_some k
  unfold F_laws_FnExactNamedFormula
  rw [specNamed_eq, h]
  simp only [cal_some_eq]
  have he : F_laws_eqFormula l l = some true := by rw [eqFormula_eq l l (by omega)]; simp
  have hm := markFormula_eq l 1 (by omega) (by omega) (by omega)
  have hh := heldFormula_marks 1 l.length (by omega) (by omega) (by omega)
  rw [cal_of he, if_neg (by simp), if_neg (by simp), cal_of hm]
  simp only
  rw [cal_of hh, if_neg (by omega), if_neg (by simp), cal_of he, if_neg (by simp), if_neg (by simp), cal_of hh, if_neg (by omega), if_neg (by simp)]
end Go.Proofs.Ytacgmkncleiblaa

/- FnExactStraightLongest: the plain law. -/
import Derived.Test.YtbcjeljppgojgaaDoorLongestS
namespace Go.Proofs.YtbcjeljppgojgaaDoor
noncomputable def resStraightLongest (a b : List Int) : List Int := resLongest false a b
theorem resStraightLongest_small (a b : List Int) (ha : a.length ≤ 1048576) (hb : b.length ≤ 1048576) : (resStraightLongest a b).length ≤ 1048576 := resLongest_le false a b ha
theorem specStraightLongest_eq (a b : List Int) (ha : a.length ≤ 1048576) (hb : b.length ≤ 1048576) : F_spec_StraightLongest a b = some (resStraightLongest a b) := by
  unfold F_spec_StraightLongest
  rw [cal_of (specLongest false a b ha hb)]; rfl
theorem implStraightLongest_eq (a b : List Int) (ha : a.length ≤ 1048576) (hb : b.length ≤ 1048576) : F_impl_StraightLongest a b = some (resStraightLongest a b) := by
  unfold F_impl_StraightLongest
  rw [cal_of (implLongest false a b ha hb)]; rfl
theorem T_FnExactStraightLongest (x0 : List Int) (hx0 : Sz.ok x0) (x1 : List Int) (hx1 : Sz.ok x1) : F_laws_FnExactStraightLongest x0 x1 = some true := by
  unfold F_laws_FnExactStraightLongest
  by_cases c0 : 1048576 < (x0.length : Int)
  · rw [if_pos c0]
  rw [if_neg c0]
  have l0 : x0.length ≤ 1048576 := by omega
  by_cases c1 : 1048576 < (x1.length : Int)
  · rw [if_pos c1]
  rw [if_neg c1]
  have l1 : x1.length ≤ 1048576 := by omega
  have hS := specStraightLongest_eq x0 x1 l0 l1
  have hI := implStraightLongest_eq x0 x1 l0 l1
  have hB := resStraightLongest_small x0 x1 l0 l1
  generalize resStraightLongest x0 x1 = R at hS hI hB
  have he0 : F_laws_eqInt64S R R = some true := by rw [eqInt64S_eq R R (by have := hB; omega)]; simp
  obtain ⟨k0, q0, hk0⟩ : ∃ k : Int, ∃ q, F_laws_markInt64S x0 1 = some (k, q) ∧ 0 ≤ k ∧ k ≤ 1 + 1099511627776 := by
    exact ⟨_, _, markInt64S_eq x0 1 (by omega) (by omega) (by omega), by omega, by omega⟩
  obtain ⟨k1, q1, hk1⟩ : ∃ k : Int, ∃ q, F_laws_markInt64S x1 k0 = some (k, q) ∧ 0 ≤ k ∧ k ≤ k0 + 1099511627776 := by
    exact ⟨_, _, markInt64S_eq x1 k0 (by omega) (by omega) (by omega), by omega, by omega⟩
  obtain ⟨m_r0, z_r0, hz_r0, hh_r0, hn_r0⟩ : ∃ k : Int, ∃ q, F_laws_markInt64S R 1 = some (k, q) ∧ F_laws_heldInt64S q 1 = some k ∧ 0 ≤ k ∧ k ≤ 1 + 4398046511104 := by
    have := hB
    exact ⟨_, _, markInt64S_eq R 1 (by have := hB; omega) (by omega) (by omega), heldInt64S_marks 1 R.length (by have := hB; omega) (by omega) (by omega), by omega, by omega⟩
  rw [cal_of (toInt64S_eq x0 (by omega)), cal_of (toInt64S_eq x1 (by omega)), cal_of hS, cal_of (toInt64S_eq x0 (by omega)), cal_of (toInt64S_eq x1 (by omega)), cal_of hI, cal_of he0, if_neg (by simp), cal_of (toInt64S_eq x0 (by omega)), cal_of (eqInt64S_eq x0 x0 (by omega)), if_neg (by simp), cal_of (toInt64S_eq x1 (by omega)), cal_of (eqInt64S_eq x1 x1 (by omega)), if_neg (by simp), cal_of hk0.1, cal_of hk1.1, if_neg (by simp only; omega), cal_of he0, if_neg (by simp), cal_of hz_r0]
  simp only
  rw [cal_of hh_r0, if_neg (by omega), if_neg (by simp), cal_of (toInt64S_eq x0 (by omega)), cal_of (toInt64S_eq x1 (by omega)), cal_of hI, cal_of he0, if_neg (by simp), cal_of hh_r0, if_neg (by omega), if_neg (by simp)]
end Go.Proofs.YtbcjeljppgojgaaDoor

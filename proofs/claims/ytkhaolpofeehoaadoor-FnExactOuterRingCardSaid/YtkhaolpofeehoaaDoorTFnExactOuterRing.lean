/- FnExactOuterRing: the plain law. -/
import Derived.Test.YtkhaolpofeehoaaDoorRingBest
import Derived.Test.YtkhaolpofeehoaaDoorLawGraph
import Derived.Test.YtkhaolpofeehoaaDoorLawMarks
namespace Go.Proofs.YtkhaolpofeehoaaDoor
open Classical in
noncomputable def resLeastC (g : List (List Int)) : List Int × Int := if GOk g ∧ g.length ≤ 8 then bestR g else ([], -1)
open Classical in
noncomputable def resOuterRing (g : List (List Int)) : List Int × Bool := if (resLeastC g).2 = 0 then ((resLeastC g).1, true) else ([], false)
theorem specOuterRing_eq (g : List (List Int)) (hgl : g.length ≤ 1048576) (hl : ∀ x ∈ g, x.length ≤ 1048576) : F_spec_OuterRing g = some (resOuterRing g) := by
  unfold F_spec_OuterRing resOuterRing resLeastC
  rw [cal_of (l26Small_eq2 g hl)]
  by_cases h : GOk g ∧ g.length ≤ 8
  · rw [if_neg (by simpa using h), cal_of (l24Least_eq h.1), if_pos h]
    by_cases h0 : (bestR g).2 = 0
    · rw [if_neg (by simpa using h0), if_pos h0]
    · rw [if_pos h0, if_neg h0]
  · rw [if_pos (by simpa using h), if_neg h, if_neg (by decide)]
theorem implLeastC_eq (g : List (List Int)) (hgl : g.length ≤ 1048576) (hl : ∀ x ∈ g, x.length ≤ 1048576) : F_impl_LeastCrossings g = some (resLeastC g) := by
  unfold F_impl_LeastCrossings resLeastC
  rw [cal_of (isSmall_eq2 g hgl hl)]
  by_cases h : GOk g ∧ g.length ≤ 8
  · rw [if_neg (by simpa using h), cal_of (leastRing_eq h.1), if_pos h]
  · rw [if_pos (by simpa using h), if_neg h]
theorem implOuterRing_eq (g : List (List Int)) (hgl : g.length ≤ 1048576) (hl : ∀ x ∈ g, x.length ≤ 1048576) : F_impl_OuterRing g = some (resOuterRing g) := by
  unfold F_impl_OuterRing resOuterRing
  rw [cal_of (implLeastC_eq g hgl hl)]
  by_cases h0 : (resLeastC g).2 = 0
  · rw [if_neg (by simpa using h0), if_pos h0]
  · rw [if_pos h0, if_neg h0]
theorem resOuterRing_small (g : List (List Int)) (hgl : g.length ≤ 1048576) (hl : ∀ x ∈ g, x.length ≤ 1048576) : (resOuterRing g).1.length ≤ 1048576 := by
  unfold resOuterRing
  split
  · show (resLeastC g).1.length ≤ _
    unfold resLeastC
    split
    · rename_i h; exact bestR_small h.1
    · simp
  · simp
theorem T_FnExactOuterRing (x0 : List (List Int)) (hx0 : Sz.ok x0) : F_laws_FnExactOuterRing x0 = some true := by
  unfold F_laws_FnExactOuterRing
  obtain ⟨m0, hm0, h0⟩ := szGraph_eq x0 1048576 (by omega) (by omega) hx0
  rw [cal_of hm0]
  rcases h0 with h0 | ⟨b0, e0, l0, r0⟩
  · rw [if_pos h0]
  rw [if_neg (by omega)]
  have hS := specOuterRing_eq x0 l0 r0
  have hI := implOuterRing_eq x0 l0 r0
  have hB := resOuterRing_small x0 l0 r0
  generalize resOuterRing x0 = R at hS hI hB
  have he0 : F_laws_eqInt64S R.1 R.1 = some true := by rw [eqInt64S_eq R.1 R.1 (by have := hB; omega)]; simp
  obtain ⟨k0, q0, hk0⟩ : ∃ k : Int, ∃ q, F_laws_markGraph x0 1 = some (k, q) ∧ 0 ≤ k ∧ k ≤ 1 + 1099511627776 := by
    have hsum := sumLen_le (n := 1048576) r0
    have : sumLen x0 ≤ 1048576 * 1048576 := Nat.le_trans hsum (Nat.mul_le_mul_right _ l0)
    exact ⟨_, _, markGraph_eq x0 1 l0 r0 (by omega) (by omega), by omega, by omega⟩
  obtain ⟨m_r0, z_r0, hz_r0, hh_r0, hn_r0⟩ : ∃ k : Int, ∃ q, F_laws_markInt64S R.1 1 = some (k, q) ∧ F_laws_heldInt64S q 1 = some k ∧ 0 ≤ k ∧ k ≤ 1 + 4398046511104 := by
    have := hB
    exact ⟨_, _, markInt64S_eq R.1 1 (by have := hB; omega) (by omega) (by omega), heldInt64S_marks 1 R.1.length (by have := hB; omega) (by omega) (by omega), by omega, by omega⟩
  rw [cal_of (toGraph_eq x0 l0 r0), cal_of hS, cal_of (toGraph_eq x0 l0 r0), cal_of hI, cal_of he0, if_neg (by simp), if_neg (by simp), cal_of (toGraph_eq x0 l0 r0), cal_of (eqGraph_eq x0 l0 r0), if_neg (by simp), cal_of hk0.1, if_neg (by simp only; omega), cal_of he0, if_neg (by simp), if_neg (by simp), cal_of hz_r0]
  simp only
  rw [cal_of hh_r0, if_neg (by omega), if_neg (by simp), cal_of (toGraph_eq x0 l0 r0), cal_of hI, cal_of he0, if_neg (by simp), if_neg (by simp), cal_of hh_r0, if_neg (by omega), if_neg (by simp)]
end Go.Proofs.YtkhaolpofeehoaaDoor

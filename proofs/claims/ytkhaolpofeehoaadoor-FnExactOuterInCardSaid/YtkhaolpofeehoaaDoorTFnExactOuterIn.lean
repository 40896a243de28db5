/- FnExactOuterIn: the plain law. -/
import Derived.Test.YtkhaolpofeehoaaDoorRingBest
import Derived.Test.YtkhaolpofeehoaaDoorLawGraph
namespace Go.Proofs.YtkhaolpofeehoaaDoor
open Classical in
noncomputable def resLeastC (g : List (List Int)) : List Int × Int := if GOk g ∧ g.length ≤ 8 then bestR g else ([], -1)
open Classical in
noncomputable def resOuterRing (g : List (List Int)) : List Int × Bool := if (resLeastC g).2 = 0 then ((resLeastC g).1, true) else ([], false)
theorem specOuterRing_eq (g : List (List Int)) (hgl : g.length ≤ 1048576) (hl : ∀ x ∈ g, x.length ≤ 1048576) : F_spec_OuterRing g = some (resOuterRing g) := by
  unfold F_spec_OuterRing resOuterRing resLeastC
  rw [cal_of (l26Small_eq2 g hl)]
  by_cases h : GOk g ∧ g.length ≤ 8
  · rw [if_neg (by simpa using h), cal_of (l24Least_eq h.1), if_pos h]
    by_cases h0 : (bestR g).2 = 0
    · rw [if_neg (by simpa using h0), if_pos h0]
    · rw [if_pos h0, if_neg h0]
  · rw [if_pos (by simpa using h), if_neg h, if_neg (by decide)]
theorem implLeastC_eq (g : List (List Int)) (hgl : g.length ≤ 1048576) (hl : ∀ x ∈ g, x.length ≤ 1048576) : F_impl_LeastCrossings g = some (resLeastC g) := by
  unfold F_impl_LeastCrossings resLeastC
  rw [cal_of (isSmall_eq2 g hgl hl)]
  by_cases h : GOk g ∧ g.length ≤ 8
  · rw [if_neg (by simpa using h), cal_of (leastRing_eq h.1), if_pos h]
  · rw [if_pos (by simpa using h), if_neg h]
theorem implOuterRing_eq (g : List (List Int)) (hgl : g.length ≤ 1048576) (hl : ∀ x ∈ g, x.length ≤ 1048576) : F_impl_OuterRing g = some (resOuterRing g) := by
  unfold F_impl_OuterRing resOuterRing
  rw [cal_of (implLeastC_eq g hgl hl)]
  by_cases h0 : (resLeastC g).2 = 0
  · rw [if_neg (by simpa using h0), if_pos h0]
  · rw [if_pos h0, if_neg h0]
theorem specOuterIn_eq (g : List (List Int)) (hgl : g.length ≤ 1048576) (hl : ∀ x ∈ g, x.length ≤ 1048576) : F_spec_OuterIn g = some (resOuterRing g).2 := by
  unfold F_spec_OuterIn
  rw [cal_of (specOuterRing_eq g hgl hl)]
theorem implOuterIn_eq (g : List (List Int)) (hgl : g.length ≤ 1048576) (hl : ∀ x ∈ g, x.length ≤ 1048576) : F_impl_OuterIn g = some (resOuterRing g).2 := by
  unfold F_impl_OuterIn
  rw [cal_of (implOuterRing_eq g hgl hl)]
theorem T_FnExactOuterIn (x0 : List (List Int)) (hx0 : Sz.ok x0) : F_laws_FnExactOuterIn x0 = some true := by
  unfold F_laws_FnExactOuterIn
  obtain ⟨m0, hm0, h0⟩ := szGraph_eq x0 1048576 (by omega) (by omega) hx0
  rw [cal_of hm0]
  rcases h0 with h0 | ⟨b0, e0, l0, r0⟩
  · rw [if_pos h0]
  rw [if_neg (by omega)]
  rw [cal_of (toGraph_eq x0 l0 r0), cal_of (specOuterIn_eq x0 l0 r0), cal_of (toGraph_eq x0 l0 r0), cal_of (implOuterIn_eq x0 l0 r0), if_neg (by simp), cal_of (toGraph_eq x0 l0 r0), cal_of (eqGraph_eq x0 l0 r0), if_neg (by simp)]
end Go.Proofs.YtkhaolpofeehoaaDoor

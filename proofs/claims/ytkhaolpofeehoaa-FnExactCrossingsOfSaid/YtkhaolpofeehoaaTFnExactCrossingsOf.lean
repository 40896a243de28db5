/- FnExactCrossingsOf: the plain law. -/
import Derived.Test.YtkhaolpofeehoaaRing
import Derived.Test.YtkhaolpofeehoaaLawGraph
namespace Go.Proofs.Ytkhaolpofeehoaa
open Classical in
noncomputable def resCrossingsOf (g : List (List Int)) (o : List Int) : Int := if RingIs g o then (crossings o (edges g) : Int) else -1
theorem specCrossingsOf_eq (g : List (List Int)) (o : List Int) (hgl : g.length ≤ 1048576) (hl : ∀ x ∈ g, x.length ≤ 1048576) (ho : o.length ≤ 1048576) : F_spec_CrossingsOf g o = some (resCrossingsOf g o) := by
  unfold F_spec_CrossingsOf resCrossingsOf
  rw [cal_of (specRingOk_eq g o hgl hl ho)]
  by_cases h : RingIs g o
  case neg => rw [if_pos (by simpa using h), if_neg h]
  have hg := h.1.1
  rw [if_neg (by simpa using h), if_pos h, cal_of (l1Edges_eq hg), cal_of (l24Crossings_eq h.1.2 hg.n16 (fun e he => edges_pair hg he) (edges_len256 hg))]
theorem implCrossingsOf_eq (g : List (List Int)) (o : List Int) (hgl : g.length ≤ 1048576) (hl : ∀ x ∈ g, x.length ≤ 1048576) (ho : o.length ≤ 1048576) : F_impl_CrossingsOf g o = some (resCrossingsOf g o) := by
  unfold F_impl_CrossingsOf resCrossingsOf
  rw [cal_of (implRingOk_eq g o hgl hl ho)]
  by_cases h : RingIs g o
  case neg => rw [if_pos (by simpa using h), if_neg h]
  have hg := h.1.1
  rw [if_neg (by simpa using h), if_pos h, cal_of (edgesOf_eq hg), cal_of (crossingsOn_eq h.1.2 hg.n1 hg.n16 (fun e he => edges_pair hg he) (edges_len256 hg))]
theorem T_FnExactCrossingsOf (x0 : List (List Int)) (hx0 : Sz.ok x0) (x1 : List Int) (hx1 : Sz.ok x1) : F_laws_FnExactCrossingsOf x0 x1 = some true := by
  unfold F_laws_FnExactCrossingsOf
  by_cases c1 : 1048576 < (x1.length : Int)
  · rw [if_pos c1]
  rw [if_neg c1]
  have l1 : x1.length ≤ 1048576 := by omega
  obtain ⟨m0, hm0, h0⟩ := szGraph_eq x0 1048576 (by omega) (by omega) hx0
  rw [cal_of hm0]
  rcases h0 with h0 | ⟨b0, e0, l0, r0⟩
  · rw [if_pos h0]
  rw [if_neg (by omega)]
  rw [cal_of (toGraph_eq x0 l0 r0), cal_of (toInt64S_eq x1 (by omega)), cal_of (specCrossingsOf_eq x0 x1 l0 r0 l1), cal_of (toGraph_eq x0 l0 r0), cal_of (toInt64S_eq x1 (by omega)), cal_of (implCrossingsOf_eq x0 x1 l0 r0 l1), if_neg (by simp), cal_of (toGraph_eq x0 l0 r0), cal_of (eqGraph_eq x0 l0 r0), if_neg (by simp), cal_of (toInt64S_eq x1 (by omega)), cal_of (eqInt64S_eq x1 x1 (by omega)), if_neg (by simp)]
end Go.Proofs.Ytkhaolpofeehoaa

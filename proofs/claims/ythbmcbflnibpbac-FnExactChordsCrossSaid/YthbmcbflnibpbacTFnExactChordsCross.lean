/- FnExactChordsCross: the plain law. -/
import Derived.Test.YthbmcbflnibpbacRing
import Derived.Test.YthbmcbflnibpbacLawGraph
namespace Go.Proofs.Ythbmcbflnibpbac
def ChordsIs (g : List (List Int)) (o e f : List Int) : Prop := RingIs g o ∧ EdgeOk g e ∧ EdgeOk g f ∧ Crosses o e f
open Classical in
theorem specChordsCross_eq (g : List (List Int)) (o e f : List Int) (hgl : g.length ≤ 1048576) (hl : ∀ x ∈ g, x.length ≤ 1048576) (ho : o.length ≤ 1048576) (he : e.length ≤ 1048576) (hf : f.length ≤ 1048576) : F_spec_ChordsCross g o e f = some (decide (ChordsIs g o e f)) := by
  unfold F_spec_ChordsCross
  rw [cal_of (specRingOk_eq g o hgl hl ho)]
  by_cases h : RingIs g o
  case neg => rw [if_neg (by simpa using h)]; exact congrArg some (decide_eq_false (fun k => h k.1)).symm
  have hg := h.1.1
  rw [if_pos (by simpa using h), cal_of (l24Edge_eq hg hl e)]
  by_cases h1 : EdgeOk g e
  case neg => rw [if_neg (by simpa using h1)]; exact congrArg some (decide_eq_false (fun k => h1 k.2.1)).symm
  rw [if_pos (by simpa using h1), cal_of (l24Edge_eq hg hl f)]
  by_cases h2 : EdgeOk g f
  case neg => rw [if_neg (by simpa using h2)]; exact congrArg some (decide_eq_false (fun k => h2 k.2.2.1)).symm
  rw [if_pos (by simpa using h2), cal_of (l24Places_eq h.1.2 hg.n16), cal_of (l24Cross_eq h.1.2 (h1.pair hg) (h2.pair hg))]
  congr 1
  rw [decide_eq_decide]
  exact ⟨fun k => ⟨h, h1, h2, k⟩, fun k => k.2.2.2⟩
open Classical in
theorem implChordsCross_eq (g : List (List Int)) (o e f : List Int) (hgl : g.length ≤ 1048576) (hl : ∀ x ∈ g, x.length ≤ 1048576) (ho : o.length ≤ 1048576) (he : e.length ≤ 1048576) (hf : f.length ≤ 1048576) : F_impl_ChordsCross g o e f = some (decide (ChordsIs g o e f)) := by
  unfold F_impl_ChordsCross
  rw [cal_of (implRingOk_eq g o hgl hl ho)]
  by_cases h : RingIs g o
  case neg => rw [if_pos (by simpa using h)]; exact congrArg some (decide_eq_false (fun k => h k.1)).symm
  have hg := h.1.1
  rw [if_neg (by simpa using h), cal_of (isEdge_eq hg hgl hl e)]
  by_cases h1 : EdgeOk g e
  case neg => rw [if_pos (by simpa using h1)]; exact congrArg some (decide_eq_false (fun k => h1 k.2.1)).symm
  rw [if_neg (by simpa using h1), cal_of (isEdge_eq hg hgl hl f)]
  by_cases h2 : EdgeOk g f
  case neg => rw [if_pos (by simpa using h2)]; exact congrArg some (decide_eq_false (fun k => h2 k.2.2.1)).symm
  rw [if_neg (by simpa using h2), cal_of (placesIn_eq h.1.2 hg.n1 hg.n16), cal_of (alternate_eq h.1.2 (h1.pair hg) (h2.pair hg))]
  congr 1
  rw [decide_eq_decide]
  exact ⟨fun k => ⟨h, h1, h2, k⟩, fun k => k.2.2.2⟩
theorem T_FnExactChordsCross (x0 : List (List Int)) (hx0 : Sz.ok x0) (x1 : List Int) (hx1 : Sz.ok x1) (x2 : List Int) (hx2 : Sz.ok x2) (x3 : List Int) (hx3 : Sz.ok x3) : F_laws_FnExactChordsCross x0 x1 x2 x3 = some true := by
  unfold F_laws_FnExactChordsCross
  by_cases c1 : 1048576 < (x1.length : Int)
  · rw [if_pos c1]
  rw [if_neg c1]
  have l1 : x1.length ≤ 1048576 := by omega
  by_cases c2 : 1048576 < (x2.length : Int)
  · rw [if_pos c2]
  rw [if_neg c2]
  have l2 : x2.length ≤ 1048576 := by omega
  by_cases c3 : 1048576 < (x3.length : Int)
  · rw [if_pos c3]
  rw [if_neg c3]
  have l3 : x3.length ≤ 1048576 := by omega
  obtain ⟨m0, hm0, h0⟩ := szGraph_eq x0 1048576 (by omega) (by omega) hx0
  rw [cal_of hm0]
  rcases h0 with h0 | ⟨b0, e0, l0, r0⟩
  · rw [if_pos h0]
  rw [if_neg (by omega)]
  rw [cal_of (toGraph_eq x0 l0 r0), cal_of (toInt64S_eq x1 (by omega)), cal_of (toInt64S_eq x2 (by omega)), cal_of (toInt64S_eq x3 (by omega)), cal_of (specChordsCross_eq x0 x1 x2 x3 l0 r0 l1 l2 l3), cal_of (toGraph_eq x0 l0 r0), cal_of (toInt64S_eq x1 (by omega)), cal_of (toInt64S_eq x2 (by omega)), cal_of (toInt64S_eq x3 (by omega)), cal_of (implChordsCross_eq x0 x1 x2 x3 l0 r0 l1 l2 l3), if_neg (by simp), cal_of (toGraph_eq x0 l0 r0), cal_of (eqGraph_eq x0 l0 r0), if_neg (by simp), cal_of (toInt64S_eq x1 (by omega)), cal_of (eqInt64S_eq x1 x1 (by omega)), if_neg (by simp), cal_of (toInt64S_eq x2 (by omega)), cal_of (eqInt64S_eq x2 x2 (by omega)), if_neg (by simp), cal_of (toInt64S_eq x3 (by omega)), cal_of (eqInt64S_eq x3 x3 (by omega)), if_neg (by simp)]
end Go.Proofs.Ythbmcbflnibpbac

/- FnExactBarrierOk: the plain law. -/
import Derived.Test.YtdlmmchdpnmaeaaDoorParts
import Derived.Test.YtdlmmchdpnmaeaaDoorMatch
import Derived.Test.YtdlmmchdpnmaeaaDoorLawGraph
namespace Go.Proofs.YtdlmmchdpnmaeaaDoor
open Classical in
theorem specBarrierOk_eq (g : List (List Int)) (s : List Int) (es : List (List Int)) (hgl : g.length ≤ 1048576) (hl : ∀ x ∈ g, x.length ≤ 1048576) (hs : s.length ≤ 1048576) (he : es.length ≤ 1048576) (hr : ∀ x ∈ es, x.length ≤ 1048576) : F_spec_BarrierOk g s es = some (decide ((GOk g ∧ IsMatch g es) ∧ (GOk g ∧ Rises s g.length) ∧ 2 * es.length + oddLeft g s = g.length + s.length)) := by
  unfold F_spec_BarrierOk
  rw [cal_of (specMatchOk_eq g es hgl hl he hr)]
  by_cases hm : GOk g ∧ IsMatch g es
  case neg => rw [if_pos (by simpa using hm)]; exact congrArg some (decide_eq_false (fun h => hm h.1)).symm
  rw [if_neg (by simpa using hm), cal_of (specSetOk_eq g s hl hs)]
  by_cases hS : GOk g ∧ Rises s g.length
  case neg => rw [if_pos (by simpa using hS)]; exact congrArg some (decide_eq_false (fun h => hS h.2.1)).symm
  rw [if_neg (by simpa using hS)]
  have hml := match_le hm.2
  have hn := hm.1.n16
  have hsl := hS.2.len16 hn
  have hodd := oddLeft_le hm.1 s
  have hO : resOddParts g s = (oddLeft g s : Int) := by unfold resOddParts; rw [if_pos hS]
  have hsO := specOddParts_eq g s hgl hl hs
  rw [hO] at hsO
  unfold F_spec_l1Size
  rw [ck_of (inI (by omega) (by omega)), cal_of hsO, ck_of (inI (by omega) (by omega)), cal_some_eq, ck_of (inI (by omega) (by omega))]
  congr 1
  rw [Bool.eq_iff_iff, decide_eq_true_iff, decide_eq_true_iff]
  exact ⟨fun h => ⟨hm, hS, by omega⟩, fun h => by omega⟩
open Classical in
theorem implBarrierOk_eq (g : List (List Int)) (s : List Int) (es : List (List Int)) (hgl : g.length ≤ 1048576) (hl : ∀ x ∈ g, x.length ≤ 1048576) (hs : s.length ≤ 1048576) (he : es.length ≤ 1048576) (hr : ∀ x ∈ es, x.length ≤ 1048576) : F_impl_BarrierOk g s es = some (decide ((GOk g ∧ IsMatch g es) ∧ (GOk g ∧ Rises s g.length) ∧ 2 * es.length + oddLeft g s = g.length + s.length)) := by
  unfold F_impl_BarrierOk
  rw [cal_of (implSetOk_eq g s hgl hl hs)]
  by_cases hS : GOk g ∧ Rises s g.length
  case neg => rw [if_neg (by simpa using hS)]; exact congrArg some (decide_eq_false (fun h => hS h.2.1)).symm
  rw [if_pos (by simpa using hS), cal_of (implMatchOk_eq g es hgl hl he hr)]
  by_cases hm : GOk g ∧ IsMatch g es
  case neg => rw [if_neg (by simpa using hm)]; exact congrArg some (decide_eq_false (fun h => hm h.1)).symm
  rw [if_pos (by simpa using hm)]
  have hml := match_le hm.2
  have hn := hm.1.n16
  have hsl := hS.2.len16 hn
  have hodd := oddLeft_le hm.1 s
  have hO : resOddParts g s = (oddLeft g s : Int) := by unfold resOddParts; rw [if_pos hS]
  have hsO := implOddParts_eq g s hgl hl hs
  rw [hO] at hsO
  rw [ck_of (inI (by omega) (by omega)), cal_of hsO, ck_of (inI (by omega) (by omega)), ck_of (inI (by omega) (by omega))]
  congr 1
  rw [Bool.eq_iff_iff, decide_eq_true_iff, decide_eq_true_iff]
  exact ⟨fun h => ⟨hm, hS, by omega⟩, fun h => by omega⟩
theorem T_FnExactBarrierOk (x0 : List (List Int)) (hx0 : Sz.ok x0) (x1 : List Int) (hx1 : Sz.ok x1) (x2 : List (List Int)) (hx2 : Sz.ok x2) : F_laws_FnExactBarrierOk x0 x1 x2 = some true := by
  unfold F_laws_FnExactBarrierOk
  by_cases c1 : 1048576 < (x1.length : Int)
  · rw [if_pos c1]
  rw [if_neg c1]
  have l1 : x1.length ≤ 1048576 := by omega
  obtain ⟨m0, hm0, h0⟩ := szGraph_eq x0 1048576 (by omega) (by omega) hx0
  rw [cal_of hm0]
  rcases h0 with h0 | ⟨b0, e0, l0, r0⟩
  · rw [if_pos h0]
  rw [if_neg (by omega)]
  obtain ⟨m2, hm2, h2⟩ := szInt64SS_eq x2 m0 (by omega) (by omega) hx2
  rw [cal_of hm2]
  rcases h2 with h2 | ⟨b2, e2, l2, r2⟩
  · rw [if_pos h2]
  rw [if_neg (by omega)]
  rw [cal_of (toGraph_eq x0 l0 r0), cal_of (toInt64S_eq x1 (by omega)), cal_of (toInt64SS_eq x2 (by omega) (fun x hx => by have := r2 x hx; omega)), cal_of (specBarrierOk_eq x0 x1 x2 l0 r0 l1 l2 r2), cal_of (toGraph_eq x0 l0 r0), cal_of (toInt64S_eq x1 (by omega)), cal_of (toInt64SS_eq x2 (by omega) (fun x hx => by have := r2 x hx; omega)), cal_of (implBarrierOk_eq x0 x1 x2 l0 r0 l1 l2 r2), if_neg (by simp), cal_of (toGraph_eq x0 l0 r0), cal_of (eqGraph_eq x0 l0 r0), if_neg (by simp), cal_of (toInt64S_eq x1 (by omega)), cal_of (eqInt64S_eq x1 x1 (by omega)), if_neg (by simp), cal_of (toInt64SS_eq x2 (by omega) (fun x hx => by have := r2 x hx; omega)), cal_of (eqInt64SS_eq x2 x2 (by omega) (fun x hx => by have := r2 x hx; omega)), if_neg (by simp)]
end Go.Proofs.YtdlmmchdpnmaeaaDoor

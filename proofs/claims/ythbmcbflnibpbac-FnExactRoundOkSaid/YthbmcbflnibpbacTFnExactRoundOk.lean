/- FnExactRoundOk: the plain law. -/
import Derived.Test.YthbmcbflnibpbacOrder
import Derived.Test.YthbmcbflnibpbacLawGraph
namespace Go.Proofs.Ythbmcbflnibpbac
theorem T_FnExactRoundOk (x0 : List (List Int)) (hx0 : Sz.ok x0) (x1 : List Int) (hx1 : Sz.ok x1) : F_laws_FnExactRoundOk x0 x1 = some true := by
  unfold F_laws_FnExactRoundOk
  by_cases c1 : 1048576 < (x1.length : Int)
  · rw [if_pos c1]
  rw [if_neg c1]
  have l1 : x1.length ≤ 1048576 := by omega
  obtain ⟨m0, hm0, h0⟩ := szGraph_eq x0 1048576 (by omega) (by omega) hx0
  rw [cal_of hm0]
  rcases h0 with h0 | ⟨b0, e0, l0, r0⟩
  · rw [if_pos h0]
  rw [if_neg (by omega)]
  rw [cal_of (toGraph_eq x0 l0 r0), cal_of (toInt64S_eq x1 (by omega)), cal_of (specRoundOk_eq x0 x1 l0 r0 l1), cal_of (toGraph_eq x0 l0 r0), cal_of (toInt64S_eq x1 (by omega)), cal_of (implRoundOk_eq x0 x1 l0 r0 l1), if_neg (by simp), cal_of (toGraph_eq x0 l0 r0), cal_of (eqGraph_eq x0 l0 r0), if_neg (by simp), cal_of (toInt64S_eq x1 (by omega)), cal_of (eqInt64S_eq x1 x1 (by omega)), if_neg (by simp)]
end Go.Proofs.Ythbmcbflnibpbac

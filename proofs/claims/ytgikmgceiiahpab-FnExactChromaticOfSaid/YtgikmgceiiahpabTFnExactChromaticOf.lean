/- FnExactChromaticOf: the plain law. -/
import Derived.Test.YtgikmgceiiahpabColour
import Derived.Test.YtgikmgceiiahpabLawGraph
namespace Go.Proofs.Ytgikmgceiiahpab
theorem T_FnExactChromaticOf (x0 : List (List Int)) (hx0 : Sz.ok x0) : F_laws_FnExactChromaticOf x0 = some true := by
  unfold F_laws_FnExactChromaticOf
  obtain ⟨m0, hm0, h0⟩ := szGraph_eq x0 1048576 (by omega) (by omega) hx0
  rw [cal_of hm0]
  rcases h0 with h0 | ⟨b0, e0, l0, r0⟩
  · rw [if_pos h0]
  rw [if_neg (by omega)]
  rw [cal_of (toGraph_eq x0 l0 r0), cal_of (specChromaticOf_eq x0 l0 r0), cal_of (toGraph_eq x0 l0 r0), cal_of (implChromaticOf_eq x0 l0 r0), if_neg (by simp), cal_of (toGraph_eq x0 l0 r0), cal_of (eqGraph_eq x0 l0 r0), if_neg (by simp)]
end Go.Proofs.Ytgikmgceiiahpab

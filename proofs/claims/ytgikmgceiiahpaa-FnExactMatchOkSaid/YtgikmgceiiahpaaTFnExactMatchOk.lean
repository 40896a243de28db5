/- FnExactMatchOk: the plain law. -/
import Derived.Test.YtgikmgceiiahpaaMatch
import Derived.Test.YtgikmgceiiahpaaLawGraph
namespace Go.Proofs.Ytgikmgceiiahpaa
theorem T_FnExactMatchOk (x0 : List (List Int)) (hx0 : Sz.ok x0) (x1 : List (List Int)) (hx1 : Sz.ok x1) : F_laws_FnExactMatchOk x0 x1 = some true := by
  unfold F_laws_FnExactMatchOk
  obtain ⟨m0, hm0, h0⟩ := szGraph_eq x0 1048576 (by omega) (by omega) hx0
  rw [cal_of hm0]
  rcases h0 with h0 | ⟨b0, e0, l0, r0⟩
  · rw [if_pos h0]
  rw [if_neg (by omega)]
  obtain ⟨m1, hm1, h1⟩ := szInt64SS_eq x1 m0 (by omega) (by omega) hx1
  rw [cal_of hm1]
  rcases h1 with h1 | ⟨b1, e1, l1, r1⟩
  · rw [if_pos h1]
  rw [if_neg (by omega)]
  rw [cal_of (toGraph_eq x0 l0 r0), cal_of (toInt64SS_eq x1 (by omega) (fun x hx => by have := r1 x hx; omega)), cal_of (specMatchOk_eq x0 x1 l0 r0 l1 r1), cal_of (toGraph_eq x0 l0 r0), cal_of (toInt64SS_eq x1 (by omega) (fun x hx => by have := r1 x hx; omega)), cal_of (implMatchOk_eq x0 x1 l0 r0 l1 r1), if_neg (by simp), cal_of (toGraph_eq x0 l0 r0), cal_of (eqGraph_eq x0 l0 r0), if_neg (by simp), cal_of (toInt64SS_eq x1 (by omega) (fun x hx => by have := r1 x hx; omega)), cal_of (eqInt64SS_eq x1 x1 (by omega) (fun x hx => by have := r1 x hx; omega)), if_neg (by simp)]
end Go.Proofs.Ytgikmgceiiahpaa

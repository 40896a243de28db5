/- The laws' helpers over graphs. -/
import Derived.Test.YtnebbhginakaiaaGraph
namespace Go.Proofs.Ytnebbhginakaiaa
theorem szGraph_eq (g : List (List Int)) (n : Int) (h0 : 0 ≤ n) (h1 : n ≤ 1048576) (ha : Sz.ok g) :
    ∃ m, F_laws_szGraph g n = some m ∧ (m < 0 ∨ (0 ≤ m ∧ m ≤ n ∧ g.length ≤ 1048576 ∧ ∀ x ∈ g, x.length ≤ 1048576)) := by
  unfold F_laws_szGraph
  obtain ⟨m, hm, h⟩ := szInt64SS_eq g n h0 h1 ha
  rw [cal_of hm]
  by_cases h2 : m < 0
  · exact ⟨-1, by rw [if_pos h2], .inl (by decide)⟩
  · exact ⟨m, by rw [if_neg h2], h⟩
theorem toGraph_eq (g : List (List Int)) (h1 : g.length ≤ 1048576) (h2 : ∀ x ∈ g, x.length ≤ 1048576) : F_laws_toGraph g = some g := by
  unfold F_laws_toGraph
  rw [cal_of (toInt64SS_eq _ (by omega) (fun x hx => by have := h2 x hx; omega))]
theorem eqGraph_eq (g : List (List Int)) (h1 : g.length ≤ 1048576) (h2 : ∀ x ∈ g, x.length ≤ 1048576) : F_laws_eqGraph g g = some true := by
  unfold F_laws_eqGraph
  rw [cal_of (eqInt64SS_eq _ _ (by omega) (fun x hx => by have := h2 x hx; omega)), if_neg (by simp)]
end Go.Proofs.Ytnebbhginakaiaa

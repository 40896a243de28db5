/- The edges of a graph: listed, counted; sums over all pairs. -/
import Derived.Test.YtnebbhginakaiaaCount
namespace Go.Proofs.Ytnebbhginakaiaa
theorem rises_els {r : List Int} {n : Nat} (h : Rises r n) (hn : n ≤ 16) : r = ints (els (mk r)) := by
  have hlt : mk r < 2 ^ 16 := Nat.lt_of_lt_of_le h.lt (pow16 hn)
  have e : r.map Int.toNat = els (mk r) := by
    refine sorted_ext ?_ (els_sorted _) fun x => ?_
    · rw [List.pairwise_iff_getElem]
      intro i j hi hj hij
      simp only [List.length_map] at hi hj
      rw [List.getElem_map, List.getElem_map]
      have key : ∀ d i, (hi : i + d + 1 < r.length) → r[i] < r[i + d + 1] := by
        intro d
        induction d with
        | zero => intro i hi; have := (h (i + 1) (by omega)).2.2 (by omega); simpa using this
        | succ d ih => intro i hi; have h1 := ih i (by omega); have h2 := (h (i + (d + 1) + 1) hi).2.2 (by omega); simp only [Nat.add_sub_cancel] at h2; exact Int.lt_trans h1 h2
      obtain ⟨d, rfl⟩ : ∃ d, j = i + d + 1 := ⟨j - i - 1, by omega⟩
      have h1 := key d i hj
      have h2 := (h i hi).1
      omega
    · rw [List.mem_map, mem_els hlt, mk_bit, decide_eq_true_iff]
  unfold ints
  rw [← e, List.map_map]
  conv => lhs; rw [← List.map_id r]
  refine List.map_congr_left fun x hx => ?_
  have := h.mem hx
  simp; omega
theorem nb_get {g : List (List Int)} {v : Nat} (h : v < g.length) : (nb g)[v]'(by rw [nb_len]; exact h) = mk g[v] := by simp [nb]
theorem nb_getD {g : List (List Int)} {v : Nat} (h : v < g.length) : (nb g).getD v 0 = mk g[v] := by rw [getD_get (by rw [nb_len]; exact h), nb_get h]
/-! ## sums -/
def edges (g : List (List Int)) : List (List Int) := (List.range g.length).flatMap fun u => ((g.getD u []).filter fun w => decide ((u : Int) < w)).map fun w => [(u : Int), w]
end Go.Proofs.Ytnebbhginakaiaa

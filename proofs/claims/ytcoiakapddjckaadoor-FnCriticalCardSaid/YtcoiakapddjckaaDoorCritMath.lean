/- Who is critical has for each vertex as many neighbours as colours but one; loops of an odd number are critical. -/
import Derived.Test.YtcoiakapddjckaaDoorCritical
namespace Go.Proofs.YtcoiakapddjckaaDoor
def loop3 : List (List Int) := [[1, 2], [0, 2], [0, 1]]
def loop5 : List (List Int) := [[1, 4], [0, 2], [1, 3], [2, 4], [0, 3]]
def loop7 : List (List Int) := [[1, 6], [0, 2], [1, 3], [2, 4], [3, 5], [4, 6], [0, 5]]
theorem crit3 : ∀ v, v < loop3.length → chrom (ind (nb loop3) (others loop3.length v)) + 1 = chrom (nb loop3) := by decide +kernel
theorem crit5 : ∀ v, v < loop5.length → chrom (ind (nb loop5) (others loop5.length v)) + 1 = chrom (nb loop5) := by decide +kernel
theorem crit7 : ∀ v, v < loop7.length → chrom (ind (nb loop7) (others loop7.length v)) + 1 = chrom (nb loop7) := by decide +kernel
/-- fewer in the list than numbers below k: one is missing -/
theorem some_free : ∀ {k : Nat} {l : List Nat}, l.length < k → ∃ c, c < k ∧ c ∉ l
  | 0, l, h => by omega
  | k + 1, l, h => by
    by_cases hk : k ∈ l
    · have h1 : (l.filter fun c => decide (c ≠ k)).length < l.length := by
        rw [List.length_filter_lt_length_iff_exists]
        exact ⟨k, hk, by simp⟩
      obtain ⟨c, hc, hm⟩ := some_free (k := k) (l := l.filter fun c => decide (c ≠ k)) (by omega)
      exact ⟨c, by omega, fun hm' => hm (List.mem_filter.2 ⟨hm', by simp; omega⟩)⟩
    · exact ⟨k, by omega, hk⟩
theorem crit_deg {a : List Nat} (hA : Sym a) {v : Nat} (hv : v < a.length) (h16 : a.length ≤ 16) (h : chrom (ind a (others a.length v)) + 1 = chrom a) : chrom a ≤ card (a.getD v 0) + 1 := by
  have hlen : (ind a (others a.length v)).length = a.length - 1 := by rw [ind_len, others_len]
  apply Classical.byContradiction
  intro hc
  obtain ⟨f, hf⟩ := chrom_le_iff.1 (Nat.le_refl (chrom (ind a (others a.length v))))
  rw [hlen] at hf
  obtain ⟨c, hck, hcn⟩ := some_free (k := chrom (ind a (others a.length v))) (l := (els (a.getD v 0)).map fun u => f (if u < v then u else u - 1)) (by rw [List.length_map]; unfold card at hc; omega)
  have free : ∀ u, u < a.length → (a.getD v 0).testBit u = true → f (if u < v then u else u - 1) ≠ c := fun u hu hb e =>
    hcn (List.mem_map.2 ⟨u, List.mem_filter.2 ⟨List.mem_range.2 (by omega), hb⟩, e⟩)
  have hch : chrom a ≤ chrom (ind a (others a.length v)) := by
    refine chrom_le_iff.2 ⟨fun u => if u = v then c else f (if u < v then u else u - 1), fun u hu => ?_, fun u w huw hw hb => ?_⟩
    · simp only
      split
      · exact hck
      · exact hf.1 (if u < v then u else u - 1) (by split <;> omega)
    · simp only
      by_cases e1 : u = v
      · rw [if_pos e1, if_neg (by omega)]
        subst e1
        have hs := hA.sym u w hv hw
        exact fun e => free w hw (by rw [getD_get hv, hs, ← getD_get hw]; exact hb) e.symm
      · by_cases e2 : w = v
        · rw [if_neg e1, if_pos e2]
          subst e2
          exact free u (by omega) hb
        · rw [if_neg e1, if_neg e2]
          refine hf.2 _ _ (by split <;> split <;> omega) (by split <;> omega) ?_
          have p1 : past v (if w < v then w else w - 1) = w := past_back hw e2
          have p2 : past v (if u < v then u else u - 1) = u := past_back (n := a.length) (by omega) e1
          rw [others_bit (by split <;> omega) (by split <;> omega), p1, p2]; exact hb
  omega
end Go.Proofs.YtcoiakapddjckaaDoor

/- Lines: lists that have each number below their length once. -/
import Derived.Test.YtkhaolpofeehoaaDoorRing
import Derived.Test.YtkhaolpofeehoaaDoorParts
namespace Go.Proofs.YtkhaolpofeehoaaDoor
def Line (a : List Int) : Prop := (1 ≤ a.length ∧ a.length ≤ 16) ∧ IsOrder a.length a
def Lines (a b : List Int) : Prop := Line a ∧ Line b ∧ a.length = b.length
open Classical in
theorem placesIn_all {o : List Int} (ho : o.length ≤ 1048576) : F_impl_placesIn o = some (if Line o then (placesOf o.length o, true) else ([], false)) := by
  by_cases h : Line o
  · rw [if_pos h, placesIn_eq h.2 h.1.1 h.1.2]
  · rw [if_neg h]
    unfold F_impl_placesIn F_slices_Values_int64
    by_cases c1 : 1 ≤ o.length
    case neg => rw [if_pos (by omega)]
    rw [if_neg (by omega)]
    by_cases c2 : o.length ≤ 16
    case neg => rw [if_pos (by omega)]
    rw [if_neg (by omega), cal_some_eq, cal_of (sorted_eq (by omega)), cal_of (increasing_eq _ _ (by rw [srt_len]; omega) (by omega) (by omega)), if_pos ?_]
    rw [decide_eq_true_iff, rises_srt]
    exact fun k => h ⟨⟨c1, c2⟩, rfl, k⟩
/-- turned from both ends, k steps -/
def rvTo (l : List Int) (k : Nat) : List Int := (List.range l.length).map fun i => if i < k ∨ l.length - k ≤ i then l.getD (l.length - 1 - i) 0 else l.getD i 0
theorem rvTo_zero (l : List Int) : rvTo l 0 = l := by
  unfold rvTo
  apply List.ext_getElem
  · simp
  · intro i h1 h2
    simp only [List.getElem_map, List.getElem_range]
    rw [if_neg (by omega), List.getD_eq_getElem?_getD, List.getElem?_eq_getElem h2]; rfl
theorem rvTo_end {l : List Int} {k : Nat} (h : l.length ≤ 2 * k + 1) : rvTo l k = l.reverse := by
  unfold rvTo
  apply List.ext_getElem
  · simp
  · intro i h1 h2
    simp only [List.length_map, List.length_range] at h1
    simp only [List.getElem_map, List.getElem_range, List.getElem_reverse]
    split
    · rw [List.getD_eq_getElem?_getD, List.getElem?_eq_getElem (by omega)]; rfl
    · rename_i hn
      have e : l.length - 1 - i = i := by omega
      simp only [e]
      rw [List.getD_eq_getElem?_getD, List.getElem?_eq_getElem (by omega)]; rfl
theorem rvTo_at {l : List Int} {k i : Nat} (h1 : k ≤ i) (h2 : i < l.length - k) : ∃ h : i < (rvTo l k).length, (rvTo l k)[i] = l.getD i 0 := by
  refine ⟨by unfold rvTo; simp; omega, ?_⟩
  unfold rvTo
  simp only [List.getElem_map, List.getElem_range]
  rw [if_neg (by omega)]
theorem rvTo_step {l : List Int} {k : Nat} (h : 2 * k + 1 < l.length) : ((rvTo l k).set k (l.getD (l.length - 1 - k) 0)).set (l.length - 1 - k) (l.getD k 0) = rvTo l (k + 1) := by
  unfold rvTo
  apply List.ext_getElem
  · simp
  · intro i h1 h2
    simp only [List.length_map, List.length_range] at h2
    rw [List.getElem_set, List.getElem_set]
    simp only [List.getElem_map, List.getElem_range]
    by_cases e1 : l.length - 1 - k = i
    · rw [if_pos e1, if_pos (by omega)]; congr 1; omega
    · rw [if_neg e1]
      by_cases e2 : k = i
      · rw [if_pos e2, if_pos (by omega), ← e2]
      · rw [if_neg e2]
        by_cases e3 : i < k ∨ l.length - k ≤ i
        · rw [if_pos e3, if_pos (by omega)]
        · rw [if_neg e3, if_neg (by omega)]
theorem clone64_eq (l : List Int) (hl : l.length ≤ 1048576) : F_slices_Clone_int64 l = some l := by
  unfold F_slices_Clone_int64
  rw [app_s (by simp; omega)]; rfl
end Go.Proofs.YtkhaolpofeehoaaDoor

/- FnExactTurnedLines: the plain law. -/
import Derived.Test.YthbmcbflnibpbabLines
import Derived.Test.YthbmcbflnibpbabLawMarks
import Derived.Test.YthbmcbflnibpbabLawCopy
namespace Go.Proofs.Ythbmcbflnibpbab
open Classical in
noncomputable def resTurnedLines (a b : List Int) : List Int × List Int × Bool := if Lines a b then (a, b.reverse, true) else ([], [], false)
theorem resTurnedLines_small (a b : List Int) (ha : a.length ≤ 1048576) (hb : b.length ≤ 1048576) : (resTurnedLines a b).1.length ≤ 1048576 ∧ (resTurnedLines a b).2.1.length ≤ 1048576 := by
  unfold resTurnedLines
  split
  · exact ⟨ha, by rw [List.length_reverse]; exact hb⟩
  · exact ⟨by simp, by simp⟩
theorem l1Copy_eq5 {l : List Int} (h : l.length ≤ 1048576) : F_spec_l1Copy l = some l := by
  unfold F_spec_l1Copy
  rw [app_s (by simp; omega)]; rfl
theorem specTurnedLines_eq (a b : List Int) (ha : a.length ≤ 1048576) (hb : b.length ≤ 1048576) : F_spec_TurnedLines a b = some (resTurnedLines a b) := by
  unfold F_spec_TurnedLines resTurnedLines
  rw [cal_of (l15Lines_eq a b ha hb)]
  by_cases h : Lines a b
  case neg => rw [if_pos (by simpa using h), if_neg h]
  rw [if_neg (by simpa using h), if_pos h, ck_of (inI (by omega) (by omega))]
  have key : lp (fun s => F_spec_TurnedLines_l1 b s.1 s.2) (([] : List Int), (b.length : Int) - 1) = some (.inl b.reverse) := by
    refine lp_upto (fun k => (b.reverse.take k, (b.length : Int) - 1 - k)) b.length (by simp) (fun k hk => ?_) ?_
    · simp only [F_spec_TurnedLines_l1]
      have hk' : k < b.reverse.length := by simp; exact hk
      rw [if_pos (by omega), show (b.length : Int) - 1 - k = ((b.length - 1 - k : Nat) : Int) by omega, idx_nat (by omega), app1_s (by rw [List.length_take]; omega), ck_of (inI (by omega) (by omega)), take_succ_of hk', List.getElem_reverse]
      exact inl_eq (pair_eq rfl (by omega))
    · simp only [F_spec_TurnedLines_l1]
      rw [if_neg (by omega), List.take_of_length_le (by simp)]
  rw [bnd_l key]
  unfold F_spec_TurnedLines_k2
  rw [cal_of (l1Copy_eq5 ha)]
theorem implTurnedLines_eq (a b : List Int) (ha : a.length ≤ 1048576) (hb : b.length ≤ 1048576) : F_impl_TurnedLines a b = some (resTurnedLines a b) := by
  unfold F_impl_TurnedLines resTurnedLines
  obtain ⟨r, h1, h2⟩ := crossings_ok a b ha hb
  rw [cal_of h1, h2]
  by_cases h : Lines a b
  case neg => rw [if_pos (by simpa using h), if_neg h]
  rw [if_neg (by simpa using h), if_pos h, cal_of (clone64_eq b hb), cal_of (reverse_eq b hb), cal_of (clone64_eq a ha)]
theorem T_FnExactTurnedLines (x0 : List Int) (hx0 : Sz.ok x0) (x1 : List Int) (hx1 : Sz.ok x1) : F_laws_FnExactTurnedLines x0 x1 = some true := by
  unfold F_laws_FnExactTurnedLines
  by_cases c0 : 1048576 < (x0.length : Int)
  · rw [if_pos c0]
  rw [if_neg c0]
  have l0 : x0.length ≤ 1048576 := by omega
  by_cases c1 : 1048576 < (x1.length : Int)
  · rw [if_pos c1]
  rw [if_neg c1]
  have l1 : x1.length ≤ 1048576 := by omega
  have hS := specTurnedLines_eq x0 x1 l0 l1
  have hI := implTurnedLines_eq x0 x1 l0 l1
  have hB := resTurnedLines_small x0 x1 l0 l1
  generalize resTurnedLines x0 x1 = R at hS hI hB
  have he0 : F_laws_eqInt64S R.1 R.1 = some true := by rw [eqInt64S_eq R.1 R.1 (by have := hB.1; omega)]; simp
  have he1 : F_laws_eqInt64S R.2.1 R.2.1 = some true := by rw [eqInt64S_eq R.2.1 R.2.1 (by have := hB.2; omega)]; simp
  obtain ⟨k0, q0, hk0⟩ : ∃ k : Int, ∃ q, F_laws_markInt64S x0 1 = some (k, q) ∧ 0 ≤ k ∧ k ≤ 1 + 1099511627776 := by
    exact ⟨_, _, markInt64S_eq x0 1 (by omega) (by omega) (by omega), by omega, by omega⟩
  obtain ⟨k1, q1, hk1⟩ : ∃ k : Int, ∃ q, F_laws_markInt64S x1 k0 = some (k, q) ∧ 0 ≤ k ∧ k ≤ k0 + 1099511627776 := by
    exact ⟨_, _, markInt64S_eq x1 k0 (by omega) (by omega) (by omega), by omega, by omega⟩
  obtain ⟨m_r0, z_r0, hz_r0, hh_r0, hn_r0⟩ : ∃ k : Int, ∃ q, F_laws_markInt64S R.1 1 = some (k, q) ∧ F_laws_heldInt64S q 1 = some k ∧ 0 ≤ k ∧ k ≤ 1 + 4398046511104 := by
    have := hB.1
    exact ⟨_, _, markInt64S_eq R.1 1 (by have := hB.1; omega) (by omega) (by omega), heldInt64S_marks 1 R.1.length (by have := hB.1; omega) (by omega) (by omega), by omega, by omega⟩
  obtain ⟨m_r1, z_r1, hz_r1, hh_r1, hn_r1⟩ : ∃ k : Int, ∃ q, F_laws_markInt64S R.2.1 m_r0 = some (k, q) ∧ F_laws_heldInt64S q m_r0 = some k ∧ 0 ≤ k ∧ k ≤ m_r0 + 4398046511104 := by
    have := hB.2
    exact ⟨_, _, markInt64S_eq R.2.1 m_r0 (by have := hB.2; omega) (by omega) (by omega), heldInt64S_marks m_r0 R.2.1.length (by have := hB.2; omega) (by omega) (by omega), by omega, by omega⟩
  rw [cal_of (toInt64S_eq x0 (by omega)), cal_of (toInt64S_eq x1 (by omega)), cal_of hS, cal_of (toInt64S_eq x0 (by omega)), cal_of (toInt64S_eq x1 (by omega)), cal_of hI, cal_of he0, if_neg (by simp), cal_of he1, if_neg (by simp), if_neg (by simp), cal_of (toInt64S_eq x0 (by omega)), cal_of (eqInt64S_eq x0 x0 (by omega)), if_neg (by simp), cal_of (toInt64S_eq x1 (by omega)), cal_of (eqInt64S_eq x1 x1 (by omega)), if_neg (by simp), cal_of hk0.1, cal_of hk1.1, if_neg (by simp only; omega), cal_of he0, if_neg (by simp), cal_of he1, if_neg (by simp), if_neg (by simp), cal_of hz_r0, cal_of hz_r1]
  simp only
  rw [cal_of hh_r0, if_neg (by omega), cal_of hh_r1, if_neg (by omega), if_neg (by simp), cal_of (toInt64S_eq x0 (by omega)), cal_of (toInt64S_eq x1 (by omega)), cal_of hI, cal_of he0, if_neg (by simp), cal_of he1, if_neg (by simp), if_neg (by simp), cal_of hh_r0, if_neg (by omega), cal_of hh_r1, if_neg (by omega), if_neg (by simp)]
end Go.Proofs.Ythbmcbflnibpbab

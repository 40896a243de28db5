/- FnExactRoundTrip: the plain law. -/
import Derived.Test.YthbmcbflnibpbaaDoorHamI
import Derived.Test.YthbmcbflnibpbaaDoorLawGraph
import Derived.Test.YthbmcbflnibpbaaDoorLawMarks
namespace Go.Proofs.YthbmcbflnibpbaaDoor
open Classical in
noncomputable def resRoundTrip (g : List (List Int)) : List Int × Bool :=
  if GOk g ∧ 3 ≤ g.length ∧ 0 < wayN (nb g) ((nb g).getD 0 0) (sdiff (2 ^ (nb g).length - 1) (2 ^ 0)) 0 then (ints (0 :: wayL (nb g) ((nb g).getD 0 0) (sdiff (2 ^ (nb g).length - 1) (2 ^ 0)) 0), true) else ([], false)
theorem resRoundTrip_small (g : List (List Int)) (hgl : g.length ≤ 1048576) (hl : ∀ x ∈ g, x.length ≤ 1048576) : (resRoundTrip g).1.length ≤ 1048576 := by
  unfold resRoundTrip
  split
  · rw [ints_len, List.length_cons]
    have := wayL_len (a := nb g) (last := (nb g).getD 0 0) (card (sdiff (2 ^ (nb g).length - 1) (2 ^ 0))) (sdiff (2 ^ (nb g).length - 1) (2 ^ 0)) 0
    have := card_le16 (sdiff (2 ^ (nb g).length - 1) (2 ^ 0))
    unfold wayL; omega
  · simp
theorem last_zero {g : List (List Int)} (hg : GOk g) : LastIs (nb g) ((nb g).getD 0 0) true := by
  intro v hv
  have h1 := hg.n1
  have hl := nb_len g
  rw [if_pos rfl, getD_get (show 0 < (nb g).length by omega)]
  exact (nbs_sym hg).sym 0 v (by omega) hv
theorem specRoundTrip_eq (g : List (List Int)) (hgl : g.length ≤ 1048576) (hl : ∀ x ∈ g, x.length ≤ 1048576) : F_spec_RoundTrip g = some (resRoundTrip g) := by
  unfold F_spec_RoundTrip F_spec_l1Size resRoundTrip
  rw [cal_of (specGraphOk_eq g hl)]
  by_cases hg : GOk g
  case neg => rw [if_pos (by simpa using hg), if_neg (fun h => hg h.1)]
  rw [if_neg (by simpa using hg), cal_some_eq]
  by_cases h3 : 3 ≤ g.length
  case neg => rw [if_pos (by omega), if_neg (fun h => h3 h.2.1)]
  have hnl := nb_len g
  have h16 := hg.n16
  have hb : ∀ v (h : v < (nb g).length), (nb g)[v] < 2 ^ (nb g).length := fun v h => by rw [hnl]; exact nb_lt hg h
  have hp := pow16 (show (nb g).length ≤ 16 by omega)
  have hp8 : 2 ^ 3 ≤ 2 ^ (nb g).length := Nat.pow_le_pow_right (by decide) (by omega)
  rw [if_neg (by omega), cal_of (l25Bits_eq hg), cal_of (l28Table_eq (by omega) hb true (last_zero hg)), cal_of (l25All_eq h16), ← hnl, tab28_idx (by omega) (by omega) (by omega), show (0 : Int) = ((0 : Nat) : Int) from rfl, row28_idx (by omega)]
  have hT : T28 (nb g) ((nb g).getD 0 0) (2 ^ (nb g).length - 1) 0 = (wayN (nb g) ((nb g).getD 0 0) (sdiff (2 ^ (nb g).length - 1) (2 ^ 0)) 0 : Int) := by
    unfold T28; rw [if_pos (by rw [full_bit]; simp; omega)]
  rw [hT]
  by_cases h : 0 < wayN (nb g) ((nb g).getD 0 0) (sdiff (2 ^ (nb g).length - 1) (2 ^ 0)) 0
  case neg => rw [if_pos (by omega), if_neg (fun k => h k.2.2)]
  rw [if_neg (by omega), if_pos ⟨hg, by omega, h⟩, cal_of (l28Least_eq (by omega) hb (by omega) h)]
theorem implRoundTrip_eq (g : List (List Int)) (hgl : g.length ≤ 1048576) (hl : ∀ x ∈ g, x.length ≤ 1048576) : F_impl_RoundTrip g = some (resRoundTrip g) := by
  unfold F_impl_RoundTrip resRoundTrip
  rw [cal_of (implGraphOk_eq g hgl hl)]
  by_cases hg : GOk g
  case neg => rw [if_pos (by simpa using hg), if_neg (fun h => hg h.1)]
  rw [if_neg (by simpa using hg)]
  by_cases h3 : 3 ≤ g.length
  case neg => rw [if_pos (by omega), if_neg (fun h => h3 h.2.1)]
  have hnl := nb_len g
  have h16 := hg.n16
  have hb : ∀ v (h : v < (nb g).length), (nb g)[v] < 2 ^ (nb g).length := fun v h => by rw [hnl]; exact nb_lt hg h
  have h0 : 0 < (nb g).length := by omega
  have hlast : (nb g).getD 0 0 < 2 ^ (nb g).length := by rw [getD_get h0]; exact hb 0 h0
  rw [if_neg (by omega), cal_of (netsOf_eq hg), show (0 : Int) = ((0 : Nat) : Int) from rfl, idx_bvs h0, ← getD_get h0, cal_of (endings_eq (by omega) hb (by omega) hlast), cal_of (tripFrom_eq (by omega) hb h0)]
  by_cases h : 0 < wayN (nb g) ((nb g).getD 0 0) (sdiff (2 ^ (nb g).length - 1) (2 ^ 0)) 0
  case neg => rw [if_neg h, if_pos rfl, if_neg (fun k => h k.2.2)]
  have hsm := wayL_len (a := nb g) (last := (nb g).getD 0 0) (card (sdiff (2 ^ (nb g).length - 1) (2 ^ 0))) (sdiff (2 ^ (nb g).length - 1) (2 ^ 0)) 0
  have hc := card_le16 (sdiff (2 ^ (nb g).length - 1) (2 ^ 0))
  rw [if_pos h, if_neg (by simp [ints]), if_pos ⟨hg, h3, h⟩, cal_of (wide_id _ (by rw [ints_len, List.length_cons]; unfold wayL; omega))]
theorem T_FnExactRoundTrip (x0 : List (List Int)) (hx0 : Sz.ok x0) : F_laws_FnExactRoundTrip x0 = some true := by
  unfold F_laws_FnExactRoundTrip
  obtain ⟨m0, hm0, h0⟩ := szGraph_eq x0 1048576 (by omega) (by omega) hx0
  rw [cal_of hm0]
  rcases h0 with h0 | ⟨b0, e0, l0, r0⟩
  · rw [if_pos h0]
  rw [if_neg (by omega)]
  have hS := specRoundTrip_eq x0 l0 r0
  have hI := implRoundTrip_eq x0 l0 r0
  have hB := resRoundTrip_small x0 l0 r0
  generalize resRoundTrip x0 = R at hS hI hB
  have he0 : F_laws_eqInt64S R.1 R.1 = some true := by rw [eqInt64S_eq R.1 R.1 (by have := hB; omega)]; simp
  obtain ⟨k0, q0, hk0⟩ : ∃ k : Int, ∃ q, F_laws_markGraph x0 1 = some (k, q) ∧ 0 ≤ k ∧ k ≤ 1 + 1099511627776 := by
    have hsum := sumLen_le (n := 1048576) r0
    have : sumLen x0 ≤ 1048576 * 1048576 := Nat.le_trans hsum (Nat.mul_le_mul_right _ l0)
    exact ⟨_, _, markGraph_eq x0 1 l0 r0 (by omega) (by omega), by omega, by omega⟩
  obtain ⟨m_r0, z_r0, hz_r0, hh_r0, hn_r0⟩ : ∃ k : Int, ∃ q, F_laws_markInt64S R.1 1 = some (k, q) ∧ F_laws_heldInt64S q 1 = some k ∧ 0 ≤ k ∧ k ≤ 1 + 4398046511104 := by
    have := hB
    exact ⟨_, _, markInt64S_eq R.1 1 (by have := hB; omega) (by omega) (by omega), heldInt64S_marks 1 R.1.length (by have := hB; omega) (by omega) (by omega), by omega, by omega⟩
  rw [cal_of (toGraph_eq x0 l0 r0), cal_of hS, cal_of (toGraph_eq x0 l0 r0), cal_of hI, cal_of he0, if_neg (by simp), if_neg (by simp), cal_of (toGraph_eq x0 l0 r0), cal_of (eqGraph_eq x0 l0 r0), if_neg (by simp), cal_of hk0.1, if_neg (by simp only; omega), cal_of he0, if_neg (by simp), if_neg (by simp), cal_of hz_r0]
  simp only
  rw [cal_of hh_r0, if_neg (by omega), if_neg (by simp), cal_of (toGraph_eq x0 l0 r0), cal_of hI, cal_of he0, if_neg (by simp), if_neg (by simp), cal_of hh_r0, if_neg (by omega), if_neg (by simp)]
end Go.Proofs.YthbmcbflnibpbaaDoor

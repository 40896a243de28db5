/- FnExactSameCert: the plain law. -/
import Derived.Test.YtacgmkncleiblaaLawSz
import Derived.Test.YtacgmkncleiblaaLawCopy
namespace Go.Proofs.Ytacgmkncleiblaa
theorem szCert_eq (a : Int × List Int × List (List Int)) (n : Int) (h0 : 0 ≤ n) (h1 : n ≤ 1048576) (ha : Sz.ok a) :
    ∃ m, F_laws_szCert a.1 a.2.1 a.2.2 n = some m ∧ (m < 0 ∨ (0 ≤ m ∧ m ≤ n ∧ a.2.1.length ≤ 1048576 ∧ a.2.2.length ≤ 1048576 ∧ ∀ x ∈ a.2.2, x.length ≤ 1048576)) := by
  unfold F_laws_szCert
  rw [cal_of (szInt64S_eq a.2.1 n h0 h1 ha.2.1)]
  by_cases h : less n (a.2.1.length : Int) < 0
  · exact ⟨-1, by rw [if_pos h], .inl (by decide)⟩
  · have hle : (a.2.1.length : Int) ≤ n := by have := less_neg (n := n) (m := (a.2.1.length : Int)); omega
    rw [if_neg h, less_of hle]
    obtain ⟨m, hm, h2⟩ := szInt64SS_eq a.2.2 (n - a.2.1.length) (by omega) (by omega) ha.2.2
    rw [cal_of hm]
    rcases h2 with h2 | ⟨h2, h3, h4, h5⟩
    · exact ⟨-1, by rw [if_pos h2], .inl (by decide)⟩
    · exact ⟨m, by rw [if_neg (by omega)], .inr ⟨h2, by omega, by omega, h4, h5⟩⟩
theorem toCert_eq (a : Int × List Int × List (List Int)) (h : a.2.1.length ≤ 1048576) (h1 : a.2.2.length ≤ 1048576) (h2 : ∀ x ∈ a.2.2, x.length ≤ 1048576) : F_laws_toCert a.1 a.2.1 a.2.2 = some a := by
  unfold F_laws_toCert
  rw [cal_of (toInt64S_eq _ (by omega)), cal_of (toInt64SS_eq _ (by omega) (fun x hx => by have := h2 x hx; omega))]
theorem cert_eq (a b : Int × List Int × List (List Int)) : (a = b) ↔ (a.1 = b.1 ∧ a.2.1 = b.2.1 ∧ a.2.2 = b.2.2) := by
  obtain ⟨x, y, z⟩ := a
  obtain ⟨x', y', z'⟩ := b
  simp
theorem specSameCert_eq (a b : Int × List Int × List (List Int)) (h : a.2.1.length ≤ 1048576) (h1 : a.2.2.length ≤ 1048576) (h2 : ∀ x ∈ a.2.2, x.length ≤ 1048576) :
    F_spec_SameCert a.1 a.2.1 a.2.2 b.1 b.2.1 b.2.2 = some (decide (a = b)) := by
  unfold F_spec_SameCert
  rw [cal_of (l1Same_eq _ _ (by omega))]
  have hl := eq_loop (step := fun s => F_spec_SameCert_l1 a.2.2 b.2.2 s) a.2.2 b.2.2 F_spec_l1Same (fun _ => rfl) (by omega) (fun x hx y _ => l1Same_eq x y (by have := h2 x hx; omega))
  have he := cert_eq a b
  by_cases e1 : a.1 = b.1
  · rw [if_neg (by simp [e1])]
    by_cases e2 : a.2.1 = b.2.1
    · rw [if_neg (by simp [e2])]
      refine hl.trans ?_
      simp only [he, e1, e2, true_and]
    · rw [if_pos (by simp [e2])]; simp [he, e2]
  · rw [if_pos e1]; simp [he, e1]
theorem implSameCert_eq (a b : Int × List Int × List (List Int)) (h : a.2.1.length ≤ 1048576) (h1 : a.2.2.length ≤ 1048576) (h2 : ∀ x ∈ a.2.2, x.length ≤ 1048576) :
    F_impl_SameCert a.1 a.2.1 a.2.2 b.1 b.2.1 b.2.2 = some (decide (a = b)) := by
  unfold F_impl_SameCert
  rw [cal_of (slicesEqual_eq _ _ (by omega))]
  have hl := eq_loop (step := fun s => F_slices_EqualFunc_Sint64_l1 a.2.2 b.2.2 F_slices_Equal_int64 s) a.2.2 b.2.2 F_slices_Equal_int64 (fun _ => rfl) (by omega) (fun x hx y _ => slicesEqual_eq x y (by have := h2 x hx; omega))
  have hl' : F_slices_EqualFunc_Sint64 a.2.2 b.2.2 (fun (z27 : (List Int)) (z28 : (List Int)) => F_slices_Equal_int64 z27 z28) = some (decide (a.2.2 = b.2.2)) := hl
  have he := cert_eq a b
  by_cases e1 : a.1 = b.1
  · rw [if_pos e1]
    by_cases e2 : a.2.1 = b.2.1
    · rw [if_pos (by simp [e2]), cal_of hl']; simp only [he, e1, e2, true_and]
    · rw [if_neg (by simp [e2])]; simp [he, e2]
  · rw [if_neg e1]; simp [he, e1]
theorem eqCert_eq (a : Int × List Int × List (List Int)) (h : a.2.1.length ≤ 1048576) (h1 : a.2.2.length ≤ 1048576) (h2 : ∀ x ∈ a.2.2, x.length ≤ 1048576) :
    F_laws_eqCert a.1 a.2.1 a.2.2 a.1 a.2.1 a.2.2 = some true := by
  unfold F_laws_eqCert
  rw [if_neg (by simp), cal_of (eqInt64S_eq _ _ (by omega)), if_neg (by simp), cal_of (eqInt64SS_eq _ _ (by omega) (fun x hx => by have := h2 x hx; omega)), if_neg (by simp)]
theorem T_FnExactSameCert (a : Int × List Int × List (List Int)) (ha : Sz.ok a) (b : Int × List Int × List (List Int)) (hb : Sz.ok b) : F_laws_FnExactSameCert a.1 a.2.1 a.2.2 b.1 b.2.1 b.2.2 = some true := by
  unfold F_laws_FnExactSameCert
  obtain ⟨m, hm, h⟩ := szCert_eq a 1048576 (by omega) (by omega) ha
  rw [cal_of hm]
  rcases h with h | ⟨h1, h2, a1, a2, a3⟩
  · rw [if_pos h]
  rw [if_neg (by omega)]
  obtain ⟨m', hm', h⟩ := szCert_eq b m h1 h2 hb
  rw [cal_of hm']
  rcases h with h | ⟨h3, h4, b1, b2, b3⟩
  · rw [if_pos h]
  rw [if_neg (by omega), cal_of (toCert_eq a a1 a2 a3), cal_of (toCert_eq b b1 b2 b3), cal_of (specSameCert_eq a b a1 a2 a3), cal_of (toCert_eq a a1 a2 a3), cal_of (toCert_eq b b1 b2 b3), cal_of (implSameCert_eq a b a1 a2 a3),
    if_neg (by simp), cal_of (toCert_eq a a1 a2 a3), cal_of (eqCert_eq a a1 a2 a3), if_neg (by simp), cal_of (toCert_eq b b1 b2 b3), cal_of (eqCert_eq b b1 b2 b3), if_neg (by simp)]
end Go.Proofs.Ytacgmkncleiblaa

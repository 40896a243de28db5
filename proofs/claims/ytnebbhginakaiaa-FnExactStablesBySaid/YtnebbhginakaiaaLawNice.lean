/- Laws whose arguments hold a nice tree: its size, its copies. -/
import Derived.Test.YtnebbhginakaiaaLawGraph
import Derived.Test.YtnebbhginakaiaaLawCopy
namespace Go.Proofs.Ytnebbhginakaiaa
abbrev NiceD := List Int × List Int × List (List Int) × List (List Int)
structure NiceLen (d : NiceD) : Prop where
  l0 : d.1.length ≤ 1048576
  l1 : d.2.1.length ≤ 1048576
  l2 : d.2.2.1.length ≤ 1048576
  l3 : d.2.2.2.length ≤ 1048576
  r2 : ∀ x ∈ d.2.2.1, x.length ≤ 1048576
  r3 : ∀ x ∈ d.2.2.2, x.length ≤ 1048576
theorem szNice_ex (d : NiceD) (m0 : Int) (h0 : 0 ≤ m0) (h1 : m0 ≤ 1048576) (hd : Sz.ok d) : ∃ m, F_laws_szNice d.1 d.2.1 d.2.2.1 d.2.2.2 m0 = some m ∧ (m < 0 ∨ (0 ≤ m ∧ m ≤ m0 ∧ NiceLen d ∧ True)) := by
  unfold F_laws_szNice
  rw [cal_of (szInt64S_eq d.1 m0 (by omega) (by omega) hd.1)]
  obtain ⟨m1, hm1⟩ : ∃ m1, less m0 d.1.length = m1 := ⟨_, rfl⟩
  rw [hm1]
  by_cases c1 : m1 < 0
  · rw [if_pos c1]; exact ⟨_, rfl, .inl (by decide)⟩
  rw [if_neg c1]
  have b1 : m1 ≤ m0 ∧ (d.1.length : Int) ≤ 1048576 := by unfold less at hm1; split at hm1 <;> omega
  rw [cal_of (szInt64S_eq d.2.1 m1 (by omega) (by omega) hd.2.1)]
  obtain ⟨m2, hm2⟩ : ∃ m2, less m1 d.2.1.length = m2 := ⟨_, rfl⟩
  rw [hm2]
  by_cases c2 : m2 < 0
  · rw [if_pos c2]; exact ⟨_, rfl, .inl (by decide)⟩
  rw [if_neg c2]
  have b2 : m2 ≤ m1 ∧ (d.2.1.length : Int) ≤ 1048576 := by unfold less at hm2; split at hm2 <;> omega
  obtain ⟨m3, hm3, h3⟩ := szInt64SS_eq d.2.2.1 m2 (by omega) (by omega) hd.2.2.1
  rw [cal_of hm3]
  rcases h3 with h3 | ⟨b3, e3, l3, r3⟩
  · rw [if_pos h3]; exact ⟨_, rfl, .inl (by decide)⟩
  rw [if_neg (by omega)]
  obtain ⟨m4, hm4, h4⟩ := szInt64SS_eq d.2.2.2 m3 (by omega) (by omega) hd.2.2.2
  rw [cal_of hm4]
  rcases h4 with h4 | ⟨b4, e4, l4, r4⟩
  · rw [if_pos h4]; exact ⟨_, rfl, .inl (by decide)⟩
  rw [if_neg (by omega)]
  exact ⟨_, rfl, .inr ⟨by omega, by omega, ⟨by omega, by omega, by omega, by omega, fun x hx => by have := r3 x hx; omega, fun x hx => by have := r4 x hx; omega⟩, trivial⟩⟩
theorem toNice_eq (d : NiceD) (h : NiceLen d) : F_laws_toNice d.1 d.2.1 d.2.2.1 d.2.2.2 = some (d.1, d.2.1, d.2.2.1, d.2.2.2) := by
  obtain ⟨l0, l1, l2, l3, r2, r3⟩ := h
  unfold F_laws_toNice
  rw [cal_of (toInt64S_eq d.1 (by omega)), cal_of (toInt64S_eq d.2.1 (by omega)), cal_of (toInt64SS_eq d.2.2.1 (by omega) (fun x hx => by have := r2 x hx; omega)), cal_of (toInt64SS_eq d.2.2.2 (by omega) (fun x hx => by have := r3 x hx; omega))]
theorem eqNice_self (d : NiceD) (h : NiceLen d) : F_laws_eqNice d.1 d.2.1 d.2.2.1 d.2.2.2 d.1 d.2.1 d.2.2.1 d.2.2.2 = some true := by
  obtain ⟨l0, l1, l2, l3, r2, r3⟩ := h
  unfold F_laws_eqNice
  rw [cal_of (eqInt64S_eq d.1 d.1 (by omega)), if_neg (by simp), cal_of (eqInt64S_eq d.2.1 d.2.1 (by omega)), if_neg (by simp), cal_of (eqInt64SS_eq d.2.2.1 d.2.2.1 (by omega) (fun x hx => by have := r2 x hx; omega)), if_neg (by simp), cal_of (eqInt64SS_eq d.2.2.2 d.2.2.2 (by omega) (fun x hx => by have := r3 x hx; omega)), if_neg (by simp)]
end Go.Proofs.Ytnebbhginakaiaa

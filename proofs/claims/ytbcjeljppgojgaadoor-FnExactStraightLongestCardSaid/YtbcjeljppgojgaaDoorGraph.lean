/- Graphs by their rows of neighbours: what the checks of spec and impl say. -/
import Derived.Test.YtbcjeljppgojgaaDoorLawSz
import Derived.Test.YtbcjeljppgojgaaDoorLawCopy
import Derived.Test.YtbcjeljppgojgaaDoorLawIn
namespace Go.Proofs.YtbcjeljppgojgaaDoor
/-- a loop over 0..n-1 that leaves at the first k that fails -/
theorem lp_for {O : Type} {step : Int → Option (Int ⊕ O)} (n : Nat) (p : Nat → Prop) (q : Prop) [Decidable q] {oT oF : O} (hq : q ↔ ∀ k, k < n → p k)
    (h1 : ∀ k, k < n → p k → step (k : Int) = some (.inl ((k : Int) + 1))) (h2 : ∀ k, k < n → ¬ p k → step (k : Int) = some (.inr oF)) (he : step (n : Int) = some (.inr oT)) :
    lp step 0 = some (if q then oT else oF) := by
  have := lp_allB (step := step) (fun k => (k : Int)) n p (decide q) (g := fun t => if t then oT else oF) (by simpa using hq) (fun k hk hp => by rw [h1 k hk hp]; rfl) h2 he
  simpa using this
/-- does s rise, with all values from 0 to n-1? -/
def Rises (s : List Int) (n : Int) : Prop := ∀ (k : Nat) (h : k < s.length), 0 ≤ s[k] ∧ s[k] ≤ n - 1 ∧ (0 < k → s[k - 1] < s[k])
theorem Rises.ge {s : List Int} {n : Int} (h : Rises s n) : ∀ (k : Nat) (hk : k < s.length), (k : Int) ≤ s[k]
  | 0, hk => (h 0 hk).1
  | k + 1, hk => by
    have h1 := Rises.ge h k (by omega)
    have h2 := (h (k + 1) hk).2.2 (by omega)
    simp only [Nat.add_sub_cancel] at h2
    omega
theorem Rises.len {s : List Int} {n : Int} (h : Rises s n) (h0 : 0 ≤ n) : (s.length : Int) ≤ n := by
  rcases Nat.eq_zero_or_pos s.length with e | e
  · omega
  · have h1 := h.ge (s.length - 1) (by omega)
    have h2 := (h (s.length - 1) (by omega)).2.1
    omega
theorem Rises.mem {s : List Int} {n x : Int} (h : Rises s n) (hx : x ∈ s) : 0 ≤ x ∧ x < n := by
  obtain ⟨k, hk, rfl⟩ := List.getElem_of_mem hx
  have := h k hk
  omega
theorem rises_step {s : List Int} {n : Int} {k : Nat} (hk : k < s.length) : (0 ≤ s[k] ∧ s[k] ≤ n - 1 ∧ (0 < k → s[k - 1] < s[k])) ↔ ((0 ≤ s[k] ∧ s[k] ≤ n - 1) ∧ (0 < k → s[k - 1] < s[k])) := by
  rw [and_assoc]
open Classical in
theorem increasing_eq (s : List Int) (n : Int) (hs : s.length ≤ 1099511627776) (h0 : 0 ≤ n) (h1 : n ≤ 1099511627776) : F_impl_increasing s n = some (decide (Rises s n)) := by
  unfold F_impl_increasing
  have key := lp_for (step := fun i => F_impl_increasing_l1 s n i) s.length (fun k => ∀ h : k < s.length, 0 ≤ s[k] ∧ s[k] ≤ n - 1 ∧ (0 < k → s[k - 1] < s[k])) (Rises s n) (oT := .inl ()) (oF := .inr false)
    ⟨fun h k _ => h k, fun h k hk => h k hk hk⟩ (fun k hk hp => ?_) (fun k hk hp => ?_) ?_
  · rw [key]; by_cases h : Rises s n <;> simp [h, F_impl_increasing_k2, bnd]
  · have hp := hp hk
    simp only [F_impl_increasing_l1]
    rw [if_pos (by omega), idx_nat hk, ck_of (inI (by omega) (by omega)), cal_of (inRange_eq _ _ _), if_neg (by simp; omega)]
    by_cases h : 0 < k
    · rw [if_pos (by omega), ck_of (inI (by omega) (by omega)), show (k : Int) - 1 = ((k - 1 : Nat) : Int) by omega, idx_nat (by omega), if_neg (by have := hp.2.2 h; omega), ck_of (inI (by omega) (by omega))]
    · rw [if_neg (by omega), ck_of (inI (by omega) (by omega))]
  · have hp : ¬ (0 ≤ s[k] ∧ s[k] ≤ n - 1 ∧ (0 < k → s[k - 1] < s[k])) := fun h => hp fun _ => h
    simp only [F_impl_increasing_l1]
    rw [if_pos (by omega), idx_nat hk, ck_of (inI (by omega) (by omega)), cal_of (inRange_eq _ _ _)]
    by_cases h : 0 ≤ s[k] ∧ s[k] ≤ n - 1
    · have h2 : 0 < k ∧ s[k] ≤ s[k - 1] := by
        by_cases h3 : 0 < k
        · refine ⟨h3, ?_⟩
          by_cases h4 : s[k - 1] < s[k]
          · exact absurd ⟨h.1, h.2, fun _ => h4⟩ hp
          · omega
        · exact absurd ⟨h.1, h.2, fun h4 => absurd h4 h3⟩ hp
      rw [if_neg (by simp; omega), if_pos (by omega), ck_of (inI (by omega) (by omega)), show (k : Int) - 1 = ((k - 1 : Nat) : Int) by omega, idx_nat (by omega), if_pos h2.2]
    · rw [if_pos (by simpa using h)]
  · simp only [F_impl_increasing_l1]; rw [if_neg (by omega)]
open Classical in
theorem l1Has_eq (s : List Int) (x : Int) (hs : s.length ≤ 1099511627776) : F_spec_l1Has s x = some (decide (x ∈ s)) := by
  unfold F_spec_l1Has
  have key := lp_for (step := fun i => F_spec_l1Has_l1 s x i) s.length (fun k => ∀ h : k < s.length, s[k] ≠ x) (¬ x ∈ s) (oT := .inl ()) (oF := .inr true)
    ⟨fun h k _ hk e => h (by rw [← e]; exact List.getElem_mem hk), fun h hm => by obtain ⟨k, hk, e⟩ := List.getElem_of_mem hm; exact h k hk hk e⟩ (fun k hk hp => ?_) (fun k hk hp => ?_) ?_
  · rw [key]; by_cases h : x ∈ s <;> simp [h, F_spec_l1Has_k2, bnd]
  · simp only [F_spec_l1Has_l1]
    rw [if_pos (by omega), idx_nat hk, if_neg (hp hk), ck_of (inI (by omega) (by omega))]
  · have hp : s[k] = x := by
      by_cases e : s[k] = x
      · exact e
      · exact absurd (fun _ => e) hp
    simp only [F_spec_l1Has_l1]
    rw [if_pos (Int.ofNat_lt.2 hk), idx_nat hk, if_pos hp]
  · simp only [F_spec_l1Has_l1]; rw [if_neg (by omega)]
/-- a graph with 1 to 16 vertices: rows that rise, no loops, both ways -/
structure GOk (g : List (List Int)) : Prop where
  n1 : 1 ≤ g.length
  n16 : g.length ≤ 16
  rows : ∀ (v : Nat) (h : v < g.length), Rises g[v] g.length ∧ (v : Int) ∉ g[v]
  sym : ∀ (v : Nat) (h : v < g.length), ∀ w ∈ g[v], ∀ (hw : w.toNat < g.length), (v : Int) ∈ g[w.toNat]
open Classical in
theorem bnd_if {A : Type} {q : Prop} [Decidable q] {x : Unit} {y : A} {k : Unit → Option A} : bnd (some (if q then .inl x else .inr y)) k = if q then k x else some y := by split <;> rfl

end Go.Proofs.YtbcjeljppgojgaaDoor

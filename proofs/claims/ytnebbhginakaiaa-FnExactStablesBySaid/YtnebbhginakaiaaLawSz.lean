/- The laws' helpers on sizes: what is left of a budget. -/
import Derived.Test.YtnebbhginakaiaaF
import Derived.Test.YtnebbhginakaiaaLoops
namespace Go.Proofs.Ytnebbhginakaiaa
def less (n m : Int) : Int := if n - m < 0 then -1 else n - m
theorem less_neg {n m : Int} : less n m < 0 ↔ n < m := by unfold less; split <;> omega
theorem less_of {n m : Int} (h : m ≤ n) : less n m = n - m := by unfold less; rw [if_neg (by omega)]
theorem inI_less {n : Int} {m : Nat} (h0 : 0 ≤ n) (h1 : n ≤ 1048576) (hm : m ≤ 9223372036854775807) : InI (n - m) := by unfold InI; omega
theorem szInt64S_eq (a : List Int) (n : Int) (h0 : 0 ≤ n) (h1 : n ≤ 1048576) (ha : Sz.ok a) : F_laws_szInt64S a n = some (less n a.length) := by
  unfold F_laws_szInt64S
  rw [ck_of (inI_less h0 h1 ha.1)]
  unfold less; split <;> rfl
theorem szInt64SS_eq (a : List (List Int)) (n : Int) (h0 : 0 ≤ n) (h1 : n ≤ 1048576) (ha : Sz.ok a) :
    ∃ m, F_laws_szInt64SS a n = some m ∧ (m < 0 ∨ (0 ≤ m ∧ m ≤ n ∧ a.length ≤ 1048576 ∧ ∀ x ∈ a, x.length ≤ 1048576)) := by
  unfold F_laws_szInt64SS
  rw [ck_of (inI_less h0 h1 ha.1)]
  by_cases hn : n - (a.length : Int) < 0
  · exact ⟨-1, by rw [if_pos hn], .inl (by decide)⟩
  rw [if_neg hn]
  have key : ∀ (j k : Nat) (m : Int), k + j = a.length → 0 ≤ m → m ≤ n → (∀ (i : Nat) (h : i < a.length), i < k → a[i].length ≤ 1048576) →
      (∃ m', lp (fun s => F_laws_szInt64SS_l1 a s.1 s.2) (m, (k : Int)) = some (.inr m') ∧ m' < 0) ∨
      (∃ m', lp (fun s => F_laws_szInt64SS_l1 a s.1 s.2) (m, (k : Int)) = some (.inl m') ∧ 0 ≤ m' ∧ m' ≤ n ∧ ∀ (i : Nat) (h : i < a.length), a[i].length ≤ 1048576) := by
    intro j
    induction j with
    | zero =>
      intro k m hk hm hmn hall
      refine .inr ⟨m, ?_, hm, hmn, fun i h => hall i h (by omega)⟩
      rw [lp_unfold]
      simp only [F_laws_szInt64SS_l1]
      rw [if_neg (by omega)]
    | succ j ih =>
      intro k m hk hm hmn hall
      have hka : k < a.length := by omega
      have hs := szInt64S_eq a[k] m hm (by omega) (ha.2 _ (List.getElem_mem _))
      by_cases hl : less m (a[k].length : Int) < 0
      · refine .inl ⟨-1, ?_, by decide⟩
        rw [lp_unfold]
        simp only [F_laws_szInt64SS_l1]
        rw [if_pos (by omega), idx_nat hka, cal_of hs, if_pos hl]
      · have hle : (a[k].length : Int) ≤ m := by have := less_neg (n := m) (m := (a[k].length : Int)); omega
        have he := less_of hle
        have hstep : F_laws_szInt64SS_l1 a m (k : Int) = some (.inl (m - (a[k].length : Int), ((k + 1 : Nat) : Int))) := by
          simp only [F_laws_szInt64SS_l1]
          rw [if_pos (by omega), idx_nat hka, cal_of hs, if_neg hl, ck_of (inI (by omega) (by omega)), he]; rfl
        have := ih (k + 1) (m - (a[k].length : Int)) (by omega) (by omega) (by omega) (fun i h hi => by
          by_cases e : i = k
          · subst e; omega
          · exact hall i h (by omega))
        rw [lp_unfold]
        simp only [hstep]
        exact this
  rcases key a.length 0 (n - a.length) (by omega) (by omega) (by omega) (fun i h hi => by omega) with ⟨m', h1, h2⟩ | ⟨m', h1, h2, h3, h4⟩
  · rw [Int.natCast_zero] at h1
    exact ⟨m', by rw [bnd_r h1], .inl h2⟩
  · rw [Int.natCast_zero] at h1
    refine ⟨m', ?_, .inr ⟨h2, h3, by omega, fun x hx => ?_⟩⟩
    · rw [bnd_l h1]; rfl
    · obtain ⟨i, hi, rfl⟩ := List.getElem_of_mem hx
      exact h4 i hi
end Go.Proofs.Ytnebbhginakaiaa

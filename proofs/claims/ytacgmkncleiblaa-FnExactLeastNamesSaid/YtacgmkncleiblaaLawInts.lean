/- The laws' helpers over []int64: copies, comparisons, marks. -/
import Derived.Test.YtacgmkncleiblaaF
import Derived.Test.YtacgmkncleiblaaLib
namespace Go.Proofs.Ytacgmkncleiblaa
theorem toInt64S_eq (a : List Int) (h : a.length ≤ 1099511627776) : F_laws_toInt64S a = some a := by
  unfold F_laws_toInt64S
  rw [mkS_of (by omega) (by unfold lim; omega)]
  have hl : lp (fun s => F_laws_toInt64S_l1 a s.1 s.2) (List.replicate (a.length : Int).toNat 0, 0) = some (.inl a) := by
    refine lp_upto (fun k => (a.take k ++ List.replicate (a.length - k) 0, (k : Int))) a.length (by simp) (fun k hk => ?_) ?_
    · simp only [F_laws_toInt64S_l1]
      rw [if_pos (by omega), idx_nat hk, idx_nat (by simp; omega), ck_of (inI (by omega) (by omega))]
      refine inl_eq (pair_eq ?_ (by omega))
      rw [take_succ_of hk]
      obtain ⟨m, hm⟩ : ∃ m, a.length - k = m + 1 := ⟨a.length - k - 1, by omega⟩
      rw [hm, List.replicate_succ, show a.length - (k + 1) = m by omega, Int.toNat_natCast, set_app rfl (by simp; omega), List.append_assoc]
      rfl
    · simp only [F_laws_toInt64S_l1]
      rw [if_neg (by omega)]; simp
  rw [bnd_l hl]; rfl
theorem eqInt64S_eq (a b : List Int) (ha : a.length ≤ 1099511627776) : F_laws_eqInt64S a b = some (decide (a = b)) := by
  unfold F_laws_eqInt64S
  by_cases hl : a.length = b.length
  · rw [if_neg (by omega)]
    have key := lp_allB (step := fun s => F_laws_eqInt64S_l1 a b s) (fun k => (k : Int)) a.length (fun k => a[k]? = b[k]?) (decide (a = b)) (g := fun t => if t then .inl () else .inr false) ?_ ?_ ?_ ?_
    · simp only [Int.natCast_zero] at key
      by_cases e : a = b
      · simp only [e, decide_true, if_true] at key ⊢; rw [bnd_l key]; rfl
      · simp only [e, decide_false] at key ⊢; rw [bnd_r key]
    · simp only [decide_eq_true_eq]
      refine ⟨fun h k _ => by rw [h], fun h => List.ext_getElem? fun k => ?_⟩
      by_cases hk : k < a.length
      · exact h k hk
      · rw [List.getElem?_eq_none (by omega), List.getElem?_eq_none (by omega)]
    · intro k hk hp
      have hk' : k < b.length := by omega
      simp only [F_laws_eqInt64S_l1]
      rw [if_pos (by omega), idx_nat hk, idx_nat hk', if_neg (by simpa [hk, hk'] using hp), ck_of (inI (by omega) (by omega))]; rfl
    · intro k hk hp
      have hk' : k < b.length := by omega
      simp only [F_laws_eqInt64S_l1]
      rw [if_pos (by omega), idx_nat hk, idx_nat hk', if_pos (by simpa [hk, hk'] using hp)]; rfl
    · simp only [F_laws_eqInt64S_l1]; rw [if_neg (by omega)]; rfl
  · rw [if_pos (by omega)]
    have : a ≠ b := fun e => hl (by rw [e])
    simp [this]
/-- the marks from k on -/
def marks (k : Int) (n : Nat) : List Int := (List.range n).map fun (i : Nat) => k + (i : Int)
theorem marks_length (k : Int) (n : Nat) : (marks k n).length = n := by simp [marks]
theorem marks_get (k : Int) (n i : Nat) (h : i < (marks k n).length) : (marks k n)[i] = k + i := by simp [marks]
theorem marks_succ (k : Int) (n : Nat) : marks k (n + 1) = marks k n ++ [k + (n : Int)] := by simp [marks, List.range_succ]
theorem markInt64S_eq (a : List Int) (k : Int) (ha : a.length ≤ 1099511627776) (h0 : 0 ≤ k) (h1 : k ≤ 1099511627776) : F_laws_markInt64S a k = some (k + a.length, marks k a.length) := by
  unfold F_laws_markInt64S
  have hl : lp (fun s => F_laws_markInt64S_l1 s.1 s.2.1 s.2.2) (a, k, 0) = some (.inl (k + a.length, marks k a.length)) := by
    refine lp_upto (fun j => (marks k j ++ a.drop j, k + (j : Int), (j : Int))) a.length (by simp [marks]) (fun j hj => ?_) ?_
    · have hlen : (marks k j ++ a.drop j).length = a.length := by simp [marks_length]; omega
      simp only [F_laws_markInt64S_l1]
      rw [if_pos (by omega), idx_nat (by omega), ck_of (inI (by omega) (by omega)), ck_of (inI (by omega) (by omega))]
      refine inl_eq (pair_eq ?_ (pair_eq (by omega) (by omega)))
      rw [Int.toNat_natCast, set_app (by rw [List.drop_eq_getElem_cons hj]) (marks_length k j), marks_succ]
      simp
    · simp only [F_laws_markInt64S_l1]
      rw [if_neg (by simp [marks_length])]; simp
  rw [bnd_l hl]; rfl
theorem heldInt64S_marks (k : Int) (n : Nat) (hn : n ≤ 1099511627776) (h0 : 0 ≤ k) (h1 : k ≤ 1099511627776) : F_laws_heldInt64S (marks k n) k = some (k + n) := by
  unfold F_laws_heldInt64S
  have hl : lp (fun s => F_laws_heldInt64S_l1 (marks k n) s.1 s.2) (k, 0) = some (.inl (k + n)) := by
    refine lp_upto (fun j => (k + (j : Int), (j : Int))) n (by simp) (fun j hj => ?_) ?_
    · simp only [F_laws_heldInt64S_l1]
      rw [if_pos (by rw [marks_length]; omega), idx_nat (by rw [marks_length]; omega), marks_get, if_neg (by simp), ck_of (inI (by omega) (by omega)), ck_of (inI (by omega) (by omega))]
      exact inl_eq (pair_eq (by omega) (by omega))
    · simp only [F_laws_heldInt64S_l1]
      rw [if_neg (by rw [marks_length]; omega)]
  rw [bnd_l hl]; rfl
end Go.Proofs.Ytacgmkncleiblaa

/- The laws' helpers over formulas: marks. -/
import Derived.Test.YtacgmkncleiblaaLawCopy
namespace Go.Proofs.Ytacgmkncleiblaa
def marksF (k : Int) (n : Nat) : List (Int × Int × Int) := (List.range n).map fun (i : Nat) => (k + 3 * (i : Int), k + 3 * (i : Int) + 1, k + 3 * (i : Int) + 2)
theorem marksF_length (k : Int) (n : Nat) : (marksF k n).length = n := by simp [marksF]
theorem marksF_get (k : Int) (n i : Nat) (h : i < (marksF k n).length) : (marksF k n)[i] = (k + 3 * (i : Int), k + 3 * (i : Int) + 1, k + 3 * (i : Int) + 2) := by simp [marksF]
theorem marksF_succ (k : Int) (n : Nat) : marksF k (n + 1) = marksF k n ++ [(k + 3 * (n : Int), k + 3 * (n : Int) + 1, k + 3 * (n : Int) + 2)] := by simp [marksF, List.range_succ]
theorem markFactS_eq (a : List (Int × Int × Int)) (k : Int) (ha : a.length ≤ 1099511627776) (h0 : 0 ≤ k) (h1 : k ≤ 1099511627776) : F_laws_markFactS a k = some (k + 3 * (a.length : Int), marksF k a.length) := by
  unfold F_laws_markFactS
  have hl : lp (fun s => F_laws_markFactS_l1 s.1 s.2.1 s.2.2) (a, k, 0) = some (.inl (k + 3 * (a.length : Int), marksF k a.length)) := by
    refine lp_upto (fun j => (marksF k j ++ a.drop j, k + 3 * (j : Int), (j : Int))) a.length (by simp [marksF]) (fun j hj => ?_) ?_
    · have hlen : (marksF k j ++ a.drop j).length = a.length := by simp [marksF_length]; omega
      simp only [F_laws_markFactS_l1]
      rw [if_pos (by omega), idx_nat (by omega), ck_of (inI (by omega) (by omega)), idx_nat (by simp only [List.length_set]; omega), ck_of (inI (by omega) (by omega)), idx_nat (by simp only [List.length_set]; omega), ck_of (inI (by omega) (by omega)), ck_of (inI (by omega) (by omega))]
      refine inl_eq (pair_eq ?_ (pair_eq (by omega) (by omega)))
      simp only [Int.toNat_natCast, List.set_set, List.getElem_set_self]
      rw [set_app (by rw [List.drop_eq_getElem_cons hj]) (marksF_length k j), marksF_succ]
      simp [Int.add_assoc]
    · simp only [F_laws_markFactS_l1]
      rw [if_neg (by simp [marksF_length])]; simp
  rw [bnd_l hl]; rfl
theorem heldFactS_marks (k : Int) (n : Nat) (hn : n ≤ 1099511627776) (h0 : 0 ≤ k) (h1 : k ≤ 1099511627776) : F_laws_heldFactS (marksF k n) k = some (k + 3 * (n : Int)) := by
  unfold F_laws_heldFactS
  have hl : lp (fun s => F_laws_heldFactS_l1 (marksF k n) s.1 s.2) (k, 0) = some (.inl (k + 3 * (n : Int))) := by
    refine lp_upto (fun j => (k + 3 * (j : Int), (j : Int))) n (by simp) (fun j hj => ?_) ?_
    · have hj' : j < (marksF k n).length := by rw [marksF_length]; omega
      simp only [F_laws_heldFactS_l1]
      rw [if_pos (by rw [marksF_length]; omega), idx_nat hj', marksF_get, if_neg (by simp), ck_of (inI (by omega) (by omega)), idx_nat hj', marksF_get, if_neg (by simp), ck_of (inI (by omega) (by omega)), idx_nat hj', marksF_get, if_neg (by simp; omega), ck_of (inI (by omega) (by omega)), ck_of (inI (by omega) (by omega))]
      exact inl_eq (pair_eq (by omega) (by omega))
    · simp only [F_laws_heldFactS_l1]
      rw [if_neg (by rw [marksF_length]; omega)]
  rw [bnd_l hl]; rfl
theorem markFormula_eq (a : List (Int × Int × Int)) (k : Int) (ha : a.length ≤ 1099511627776) (h0 : 0 ≤ k) (h1 : k ≤ 1099511627776) : F_laws_markFormula a k = some (k + 3 * (a.length : Int), marksF k a.length) := by
  unfold F_laws_markFormula
  rw [cal_of (markFactS_eq a k ha h0 h1)]
theorem heldFormula_marks (k : Int) (n : Nat) (hn : n ≤ 1099511627776) (h0 : 0 ≤ k) (h1 : k ≤ 1099511627776) : F_laws_heldFormula (marksF k n) k = some (k + 3 * (n : Int)) := by
  unfold F_laws_heldFormula
  rw [cal_of (heldFactS_marks k n hn h0 h1), if_neg (by omega)]
theorem eqFormula_eq (a b : List (Int × Int × Int)) (h : a.length ≤ 1099511627776) : F_laws_eqFormula a b = some (decide (a = b)) := by
  unfold F_laws_eqFormula
  rw [cal_of (eqFactS_eq a b h)]
  by_cases e : a = b <;> simp [e]
end Go.Proofs.Ytacgmkncleiblaa

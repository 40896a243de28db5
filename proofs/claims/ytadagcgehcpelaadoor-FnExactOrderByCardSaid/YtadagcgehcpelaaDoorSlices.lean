/- Library functions that take a test: IndexFunc, ContainsFunc. -/
import Derived.Test.YtadagcgehcpelaaDoorF
import Derived.Test.YtadagcgehcpelaaDoorFold
namespace Go.Proofs.YtadagcgehcpelaaDoor
theorem idxF_Sint64 (l : List (List Int)) (q : List Int → Option Bool) (p : List Int → Bool) (hl : l.length ≤ 1048576) (hq : ∀ x ∈ l, q x = some (p x)) : F_slices_IndexFunc_Sint64 l q = some (match l.findIdx? p with | some k => (k : Int) | none => -1) := by
  unfold F_slices_IndexFunc_Sint64
  have key := lp_find (step := fun s => F_slices_IndexFunc_Sint64_l1 l q s) l p (fun k => k) ?_ ?_ ?_
  · rw [key]; cases l.findIdx? p <;> rfl
  · intro k hk h
    simp only [F_slices_IndexFunc_Sint64_l1]
    rw [if_pos (Int.ofNat_lt.2 hk), idx_nat hk, cal_of (hq _ (List.getElem_mem hk)), if_neg (by simp [h]), ck_of (inI (by omega) (by omega))]
  · intro k hk h
    simp only [F_slices_IndexFunc_Sint64_l1]
    rw [if_pos (Int.ofNat_lt.2 hk), idx_nat hk, cal_of (hq _ (List.getElem_mem hk)), if_pos h]
  · simp only [F_slices_IndexFunc_Sint64_l1]; rw [if_neg (by omega)]
theorem hasF_Sint64 (l : List (List Int)) (q : List Int → Option Bool) (p : List Int → Bool) (hl : l.length ≤ 1048576) (hq : ∀ x ∈ l, q x = some (p x)) : F_slices_ContainsFunc_Sint64 l q = some (l.any p) := by
  unfold F_slices_ContainsFunc_Sint64
  rw [idxF_Sint64 l q p hl hq, cal_some_eq, ← find_any]
  cases l.findIdx? p <;> rfl
theorem idxF_impl_vset (l : List (BitVec 32)) (q : BitVec 32 → Option Bool) (p : BitVec 32 → Bool) (hl : l.length ≤ 1048576) (hq : ∀ x ∈ l, q x = some (p x)) : F_slices_IndexFunc_implvset l q = some (match l.findIdx? p with | some k => (k : Int) | none => -1) := by
  unfold F_slices_IndexFunc_implvset
  have key := lp_find (step := fun s => F_slices_IndexFunc_implvset_l1 l q s) l p (fun k => k) ?_ ?_ ?_
  · rw [key]; cases l.findIdx? p <;> rfl
  · intro k hk h
    simp only [F_slices_IndexFunc_implvset_l1]
    rw [if_pos (Int.ofNat_lt.2 hk), idx_nat hk, cal_of (hq _ (List.getElem_mem hk)), if_neg (by simp [h]), ck_of (inI (by omega) (by omega))]
  · intro k hk h
    simp only [F_slices_IndexFunc_implvset_l1]
    rw [if_pos (Int.ofNat_lt.2 hk), idx_nat hk, cal_of (hq _ (List.getElem_mem hk)), if_pos h]
  · simp only [F_slices_IndexFunc_implvset_l1]; rw [if_neg (by omega)]
theorem hasF_impl_vset (l : List (BitVec 32)) (q : BitVec 32 → Option Bool) (p : BitVec 32 → Bool) (hl : l.length ≤ 1048576) (hq : ∀ x ∈ l, q x = some (p x)) : F_slices_ContainsFunc_implvset l q = some (l.any p) := by
  unfold F_slices_ContainsFunc_implvset
  rw [idxF_impl_vset l q p hl hq, cal_some_eq, ← find_any]
  cases l.findIdx? p <;> rfl
end Go.Proofs.YtadagcgehcpelaaDoor

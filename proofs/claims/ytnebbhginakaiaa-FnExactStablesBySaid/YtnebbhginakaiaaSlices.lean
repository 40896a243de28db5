/- Library functions that take a test: IndexFunc, ContainsFunc. -/
import Derived.Test.YtnebbhginakaiaaF
import Derived.Test.YtnebbhginakaiaaFold
namespace Go.Proofs.Ytnebbhginakaiaa
theorem idxF_int (l : List (Int)) (q : Int → Option Bool) (p : Int → Bool) (hl : l.length ≤ 1048576) (hq : ∀ x ∈ l, q x = some (p x)) : F_slices_IndexFunc_int l q = some (match l.findIdx? p with | some k => (k : Int) | none => -1) := by
  unfold F_slices_IndexFunc_int
  have key := lp_find (step := fun s => F_slices_IndexFunc_int_l1 l q s) l p (fun k => k) ?_ ?_ ?_
  · rw [key]; cases l.findIdx? p <;> rfl
  · intro k hk h
    simp only [F_slices_IndexFunc_int_l1]
    rw [if_pos (Int.ofNat_lt.2 hk), idx_nat hk, cal_of (hq _ (List.getElem_mem hk)), if_neg (by simp [h]), ck_of (inI (by omega) (by omega))]
  · intro k hk h
    simp only [F_slices_IndexFunc_int_l1]
    rw [if_pos (Int.ofNat_lt.2 hk), idx_nat hk, cal_of (hq _ (List.getElem_mem hk)), if_pos h]
  · simp only [F_slices_IndexFunc_int_l1]; rw [if_neg (by omega)]
theorem hasF_int (l : List (Int)) (q : Int → Option Bool) (p : Int → Bool) (hl : l.length ≤ 1048576) (hq : ∀ x ∈ l, q x = some (p x)) : F_slices_ContainsFunc_int l q = some (l.any p) := by
  unfold F_slices_ContainsFunc_int
  rw [idxF_int l q p hl hq, cal_some_eq, ← find_any]
  cases l.findIdx? p <;> rfl
theorem idxF_int64 (l : List (Int)) (q : Int → Option Bool) (p : Int → Bool) (hl : l.length ≤ 1048576) (hq : ∀ x ∈ l, q x = some (p x)) : F_slices_IndexFunc_int64 l q = some (match l.findIdx? p with | some k => (k : Int) | none => -1) := by
  unfold F_slices_IndexFunc_int64
  have key := lp_find (step := fun s => F_slices_IndexFunc_int64_l1 l q s) l p (fun k => k) ?_ ?_ ?_
  · rw [key]; cases l.findIdx? p <;> rfl
  · intro k hk h
    simp only [F_slices_IndexFunc_int64_l1]
    rw [if_pos (Int.ofNat_lt.2 hk), idx_nat hk, cal_of (hq _ (List.getElem_mem hk)), if_neg (by simp [h]), ck_of (inI (by omega) (by omega))]
  · intro k hk h
    simp only [F_slices_IndexFunc_int64_l1]
    rw [if_pos (Int.ofNat_lt.2 hk), idx_nat hk, cal_of (hq _ (List.getElem_mem hk)), if_pos h]
  · simp only [F_slices_IndexFunc_int64_l1]; rw [if_neg (by omega)]
theorem hasF_int64 (l : List (Int)) (q : Int → Option Bool) (p : Int → Bool) (hl : l.length ≤ 1048576) (hq : ∀ x ∈ l, q x = some (p x)) : F_slices_ContainsFunc_int64 l q = some (l.any p) := by
  unfold F_slices_ContainsFunc_int64
  rw [idxF_int64 l q p hl hq, cal_some_eq, ← find_any]
  cases l.findIdx? p <;> rfl
end Go.Proofs.Ytnebbhginakaiaa

/- LeastNames: both give the same. -/
import Derived.Test.YtadjcnllmkdgiaaF
import Derived.Test.YtadjcnllmkdgiaaLib
namespace Go.Proofs.Ytadjcnllmkdgiaa
/-- where c stands in s for the first time, or -1 -/
theorem index_eq (s : List Int) (c : Int) (hs : s.length ≤ 1099511627776) : F_slices_Index_int64 s c = some (if c ∈ s then (s.idxOf c : Int) else -1) := by
  unfold F_slices_Index_int64
  by_cases h : c ∈ s
  · rw [if_pos h]
    have hlt : s.idxOf c < s.length := List.idxOf_lt_length_iff.2 h
    have hl : lp (fun t => F_slices_Index_int64_l1 s c t) 0 = some (.inr (s.idxOf c : Int)) := by
      refine lp_upto (fun k => (k : Int)) (s.idxOf c) rfl (fun k hk => ?_) ?_
      · simp only [F_slices_Index_int64_l1]
        have hk' : k < s.length := by omega
        rw [if_pos (by omega), idx_nat hk', if_neg, ck_of (inI (by omega) (by omega))]; · rfl
        intro e
        exact ne_of_lt_idxOf hk hk' e.symm
      · simp only [F_slices_Index_int64_l1]
        rw [if_pos (by omega), idx_nat hlt, if_pos (by simp)]
    rw [bnd_r hl]
  · rw [if_neg h]
    have hl : lp (fun t => F_slices_Index_int64_l1 s c t) 0 = some (.inl ()) := by
      refine lp_upto (fun k => (k : Int)) s.length rfl (fun k hk => ?_) ?_
      · simp only [F_slices_Index_int64_l1]
        rw [if_pos (by omega), idx_nat hk, if_neg (fun e => h (by rw [e]; simp)), ck_of (inI (by omega) (by omega))]; rfl
      · simp only [F_slices_Index_int64_l1]; rw [if_neg (by omega)]
    rw [bnd_l hl]; rfl
theorem contains_eq (s : List Int) (c : Int) (hs : s.length ≤ 1099511627776) : F_slices_Contains_int64 s c = some (decide (c ∈ s)) := by
  unfold F_slices_Contains_int64
  rw [index_eq s c hs]
  by_cases h : c ∈ s <;> simp [h] <;> omega
/-- one more colour: the colours seen, the names given -/
def nameStep (p : List Int × List Int) (c : Int) : List Int × List Int :=
  if c ∈ p.1 then (p.1, p.2 ++ [(p.1.idxOf c : Int)]) else (p.1 ++ [c], p.2 ++ [(p.1.length : Int)])
def namesOf (l : List Int) : List Int × List Int := l.foldl nameStep ([], [])
theorem namesOf_snoc (l : List Int) (c : Int) : namesOf (l ++ [c]) = nameStep (namesOf l) c := by simp [namesOf]
theorem namesOf_len (l : List Int) : (namesOf l).1.length ≤ l.length ∧ (namesOf l).2.length = l.length := by
  induction l using snoc_ind with
  | h0 => simp [namesOf]
  | h l c ih =>
    rw [namesOf_snoc]; unfold nameStep
    split <;> simp <;> omega
theorem impl_LeastNames_eq (a : List Int) : F_impl_LeastNames a = some (if 16 < a.length then [] else (namesOf a).2) := by
  unfold F_impl_LeastNames
  by_cases h : 16 < a.length
  · rw [if_pos (by omega), if_pos h]
  · rw [if_neg (by omega), if_neg h]
    have hl : lp (fun s => F_impl_LeastNames_l1 a s.1 s.2.1 s.2.2) ([], [], 0) = some (.inl (namesOf a).2) := by
      refine lp_upto (fun k => ((namesOf (a.take k)).1, (namesOf (a.take k)).2, (k : Int))) a.length (by simp [namesOf]) (fun k hk => ?_) ?_
      · obtain ⟨h1, h2⟩ := namesOf_len (a.take k)
        simp only [List.length_take] at h1 h2
        rw [take_succ_of hk, namesOf_snoc]
        simp only [F_impl_LeastNames_l1]
        rw [if_pos (by omega), idx_nat hk]
        generalize namesOf (a.take k) = p at *
        generalize a[k] = c
        rw [contains_eq _ _ (by omega), cal_some_eq]
        unfold nameStep
        by_cases hc : c ∈ p.1
        · simp only [hc, decide_true, not_true_eq_false, if_false, if_true]
          rw [index_eq _ _ (by omega), cal_some_eq, if_pos hc, app_of (by simp [lim]; omega), ck_of (inI (by omega) (by omega))]
          exact inl_eq (pair_eq rfl (pair_eq rfl (by omega)))
        · simp only [hc, decide_false, Bool.false_eq_true, not_false_eq_true, if_true, if_false]
          rw [app_of (by simp [lim]; omega), index_eq _ _ (by simp; omega), cal_some_eq, if_pos (by simp), app_of (by simp [lim]; omega), ck_of (inI (by omega) (by omega))]
          refine inl_eq (pair_eq rfl (pair_eq ?_ (by omega)))
          rw [List.idxOf_append, if_neg hc]; simp
      · simp only [F_impl_LeastNames_l1]; rw [if_neg (by omega)]; simp
    rw [bnd_l hl]; rfl
end Go.Proofs.Ytadjcnllmkdgiaa

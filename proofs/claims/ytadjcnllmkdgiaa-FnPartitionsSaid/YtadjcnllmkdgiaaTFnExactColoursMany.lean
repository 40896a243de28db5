/- FnExactColoursMany: the plain law. -/
import Derived.Test.YtadjcnllmkdgiaaOrder
import Derived.Test.YtadjcnllmkdgiaaLawCopy
import Derived.Test.YtadjcnllmkdgiaaLawSz
namespace Go.Proofs.Ytadjcnllmkdgiaa
theorem len_le_sub : ∀ {l m : List Int}, l.Nodup → (∀ x ∈ l, x ∈ m) → l.length ≤ m.length
  | [], _, _, _ => Nat.zero_le _
  | x :: l, m, h, hs => by
    have hx := hs x (List.mem_cons_self ..)
    rw [List.nodup_cons] at h
    have h1 := len_le_sub (l := l) (m := m.erase x) h.2 (fun y hy => (List.mem_erase_of_ne (fun e : y = x => h.1 (e ▸ hy))).2 (hs y (List.mem_cons_of_mem _ hy)))
    rw [List.length_erase_of_mem hx] at h1
    have : 0 < m.length := List.length_pos_of_mem hx
    rw [List.length_cons]; omega
theorem len_same {l m : List Int} (h1 : l.Nodup) (h2 : m.Nodup) (h : ∀ x, x ∈ l ↔ x ∈ m) : l.length = m.length :=
  Nat.le_antisymm (len_le_sub h1 fun x hx => (h x).1 hx) (len_le_sub h2 fun x hx => (h x).2 hx)
theorem mem_cpt {zs : List Int} {x : Int} : x ∈ cpt zs ↔ x ∈ zs := by
  unfold cpt
  rw [List.mem_map]
  constructor
  · rintro ⟨j, hj, rfl⟩
    rw [List.mem_filter, List.mem_range] at hj
    rw [getD_at hj.1]; exact List.getElem_mem _
  · intro h
    obtain ⟨i, hi, rfl⟩ := List.getElem_of_mem h
    obtain ⟨j, hj, hm⟩ := least_of (p := fun j => zs.getD j 0 = zs[i]) ⟨i, getD_at hi⟩
    have hji : j ≤ i := hm i (getD_at hi)
    refine ⟨j, ?_, hj⟩
    rw [List.mem_filter, List.mem_range]
    refine ⟨by omega, ?_⟩
    simp only [decide_eq_true_eq]
    by_cases h0 : j = 0
    · exact .inl h0
    · refine .inr fun e => ?_
      have := hm (j - 1) (e ▸ hj)
      omega
theorem cpt_nodup {zs : List Int} (h : zs.Pairwise (· ≤ ·)) : (cpt zs).Nodup := by
  unfold cpt
  rw [List.Nodup, List.pairwise_map]
  have h1 : ((List.range zs.length).filter fun j => decide (j = 0 ∨ zs.getD j 0 ≠ zs.getD (j - 1) 0)).Pairwise (· < ·) := List.Pairwise.filter _ List.pairwise_lt_range
  refine h1.imp_of_mem fun {i j} hi hj hij e => ?_
  rw [List.mem_filter, List.mem_range, decide_eq_true_eq] at hi hj
  obtain ⟨hjl, hj⟩ := hj
  have h2 : zs.getD (j - 1) 0 ≠ zs.getD j 0 := fun e => by
    rcases hj with h | h
    · omega
    · exact h e.symm
  have hle : ∀ {a b : Nat}, a ≤ b → b < zs.length → zs.getD a 0 ≤ zs.getD b 0 := fun {a b} hab hb => by
    rw [getD_at (by omega), getD_at hb]
    rcases Nat.lt_or_ge a b with h' | h'
    · exact List.pairwise_iff_getElem.1 h a b (by omega) hb h'
    · have : a = b := by omega
      subst this; exact Int.le_refl _
  have := hle (a := i) (b := j - 1) (by omega) (by omega)
  have := hle (a := j - 1) (b := j) (by omega) (by omega)
  omega
/-- how manyOf numbers a list has; −1 for a long one -/
def manyOf (cs : List Int) : Int := if 16 < cs.length then -1 else ((cpt (srt cs)).length : Int)
theorem implColoursMany_eq (cs : List Int) (h : cs.length ≤ 1048576) : F_impl_ColoursMany cs = some (manyOf cs) := by
  unfold F_impl_ColoursMany F_slices_Values_int64 manyOf
  by_cases h1 : 16 < cs.length
  · rw [if_pos (by omega), if_pos h1]
  · rw [if_neg (by omega), if_neg h1, cal_some_eq, cal_of (sorted_eq (by omega))]
    unfold F_slices_Compact_int64
    rw [if_pos (by rw [srt_len]; omega), cal_some_eq]
end Go.Proofs.Ytadjcnllmkdgiaa

/- FnExactColoursMany: the plain law. -/
import Derived.Test.YtadjcnllmkdgiaaDoorOrder
import Derived.Test.YtadjcnllmkdgiaaDoorLawCopy
import Derived.Test.YtadjcnllmkdgiaaDoorLawSz
namespace Go.Proofs.YtadjcnllmkdgiaaDoor
theorem len_le_sub : ∀ {l m : List Int}, l.Nodup → (∀ x ∈ l, x ∈ m) → l.length ≤ m.length
  | [], _, _, _ => Nat.zero_le _
  | x :: l, m, h, hs => by
    have hx := hs x (List.mem_cons_self ..)
    rw [List.nodup_cons] at h
    have h1 := len_le_sub (l := l) (m := m.erase x) h.2 (fun y hy => (List.mem_erase_of_ne (fun e : y = x => h.1 (e ▸ hy))).2 (hs y (List.mem_cons_of_mem _ hy)))
    rw [List.length_erase_of_mem hx] at h1
    have : 0 < m.length := List.length_pos_of_mem hx
    rw [List.length_cons]; omega
theorem len_same {l m : List Int} (h1 : l.Nodup) (h2 : m.Nodup) (h : ∀ x, x ∈ l ↔ x ∈ m) : l.length = m.length :=
  Nat.le_antisymm (len_le_sub h1 fun x hx => (h x).1 hx) (len_le_sub h2 fun x hx => (h x).2 hx)
theorem mem_cpt {zs : List Int} {x : Int} : x ∈ cpt zs ↔ x ∈ zs := by
  unfold cpt
  rw [List.mem_map]
  constructor
  · rintro ⟨j, hj, rfl⟩
    rw [List.mem_filter, List.mem_range] at hj
    rw [getD_at hj.1]; exact List.getElem_mem _
  · intro h
    obtain ⟨i, hi, rfl⟩ := List.getElem_of_mem h
    obtain ⟨j, hj, hm⟩ := least_of (p := fun j => zs.getD j 0 = zs[i]) ⟨i, getD_at hi⟩
    have hji : j ≤ i := hm i (getD_at hi)
    refine ⟨j, ?_, hj⟩
    rw [List.mem_filter, List.mem_range]
    refine ⟨by omega, ?_⟩
    simp only [decide_eq_true_eq]
    by_cases h0 : j = 0
    · exact .inl h0
    · refine .inr fun e => ?_
      have := hm (j - 1) (e ▸ hj)
      omega
theorem cpt_nodup {zs : List Int} (h : zs.Pairwise (· ≤ ·)) : (cpt zs).Nodup := by
  unfold cpt
  rw [List.Nodup, List.pairwise_map]
  have h1 : ((List.range zs.length).filter fun j => decide (j = 0 ∨ zs.getD j 0 ≠ zs.getD (j - 1) 0)).Pairwise (· < ·) := List.Pairwise.filter _ List.pairwise_lt_range
  refine h1.imp_of_mem fun {i j} hi hj hij e => ?_
  rw [List.mem_filter, List.mem_range, decide_eq_true_eq] at hi hj
  obtain ⟨hjl, hj⟩ := hj
  have h2 : zs.getD (j - 1) 0 ≠ zs.getD j 0 := fun e => by
    rcases hj with h | h
    · omega
    · exact h e.symm
  have hle : ∀ {a b : Nat}, a ≤ b → b < zs.length → zs.getD a 0 ≤ zs.getD b 0 := fun {a b} hab hb => by
    rw [getD_at (by omega), getD_at hb]
    rcases Nat.lt_or_ge a b with h' | h'
    · exact List.pairwise_iff_getElem.1 h a b (by omega) hb h'
    · have : a = b := by omega
      subst this; exact Int.le_refl _
  have := hle (a := i) (b := j - 1) (by omega) (by omega)
  have := hle (a := j - 1) (b := j) (by omega) (by omega)
  omega
/-- how manyOf numbers a list has; −1 for a long one -/
def manyOf (cs : List Int) : Int := if 16 < cs.length then -1 else ((cpt (srt cs)).length : Int)
theorem implColoursMany_eq (cs : List Int) (h : cs.length ≤ 1048576) : F_impl_ColoursMany cs = some (manyOf cs) := by
  unfold F_impl_ColoursMany F_slices_Values_int64 manyOf
  by_cases h1 : 16 < cs.length
  · rw [if_pos (by omega), if_pos h1]
  · rw [if_neg (by omega), if_neg h1, cal_some_eq, cal_of (sorted_eq (by omega))]
    unfold F_slices_Compact_int64
    rw [if_pos (by rw [srt_len]; omega), cal_some_eq]
theorem specColoursMany_eq (cs : List Int) (h : cs.length ≤ 1048576) : F_spec_ColoursMany cs = some (manyOf cs) := by
  unfold F_spec_ColoursMany manyOf
  by_cases h1 : 16 < cs.length
  · rw [if_pos (by omega), if_pos h1]
  rw [if_neg (by omega), if_neg h1]
  have key : ∃ o, lp (fun s : List Int × Int => F_spec_ColoursMany_l1 cs s.1 s.2) (([] : List Int), (0 : Int)) = some o ∧ ∃ l : List Int, o = .inl l ∧ l.Nodup ∧ ∀ x, x ∈ l ↔ x ∈ cs := by
    refine lp_rule (step := fun s : List Int × Int => F_spec_ColoursMany_l1 cs s.1 s.2)
      (fun s => ∃ k : Nat, k ≤ cs.length ∧ s.2 = k ∧ s.1.length ≤ k ∧ s.1.Nodup ∧ ∀ x, x ∈ s.1 ↔ x ∈ cs.take k)
      (fun s => cs.length - s.2.toNat)
      (fun o => ∃ l : List Int, o = .inl l ∧ l.Nodup ∧ ∀ x, x ∈ l ↔ x ∈ cs) ?_ (([] : List Int), (0 : Int)) ⟨0, Nat.zero_le _, rfl, Nat.zero_le _, List.nodup_nil, by simp⟩
    rintro ⟨l, i⟩ ⟨k, hk, rfl, hl, hn, hm⟩
    simp only [] at hl hn hm
    by_cases hlt : k < cs.length
    · have hs : ∀ x, x ∈ cs.take (k + 1) ↔ x ∈ cs.take k ∨ x = cs[k] := fun x => by
        rw [List.take_succ_eq_append_getElem hlt, List.mem_append, List.mem_singleton]
      by_cases hx : cs[k] ∈ l
      · refine .inl ⟨(l, (k : Int) + 1), ?_, ⟨k + 1, hlt, rfl, by simp only []; omega, hn, fun x => ?_⟩, by simp only []; omega⟩
        · simp only [F_spec_ColoursMany_l1]
          rw [if_pos (by omega), idx_nat hlt, cal_of (l1Has_eq _ _ (by omega)), if_neg (by simpa using hx), ck_of (inI (by omega) (by omega))]
        · simp only []
          rw [hs, hm]
          exact ⟨.inl, fun h => h.elim id fun e => e ▸ (hm _).1 hx⟩
      · refine .inl ⟨(l ++ [cs[k]], (k : Int) + 1), ?_, ⟨k + 1, hlt, rfl, by simp only [List.length_append, List.length_singleton]; omega, ?_, fun x => ?_⟩, by simp only []; omega⟩
        · simp only [F_spec_ColoursMany_l1]
          rw [if_pos (by omega), idx_nat hlt, cal_of (l1Has_eq _ _ (by omega)), if_pos (by simpa using hx), idx_nat hlt, app1_s (by omega), ck_of (inI (by omega) (by omega))]
        · exact List.nodup_append.2 ⟨hn, by simp, fun a ha b hb e => by rw [List.mem_singleton] at hb; subst hb; exact hx (e ▸ ha)⟩
        · simp only [List.mem_append, List.mem_singleton]
          rw [hs, hm]
    · obtain rfl : k = cs.length := by omega
      refine .inr ⟨.inl l, ?_, l, rfl, hn, fun x => ?_⟩
      · simp only [F_spec_ColoursMany_l1]
        rw [if_neg (by omega)]
      · rw [hm, List.take_length]
  obtain ⟨o, hb, l, rfl, h2, h3⟩ := key
  rw [hb]
  show some (l.length : Int) = _
  rw [len_same h2 (cpt_nodup (srt_sorted cs)) fun x => by rw [h3, mem_cpt, mem_srt]]
end Go.Proofs.YtadjcnllmkdgiaaDoor

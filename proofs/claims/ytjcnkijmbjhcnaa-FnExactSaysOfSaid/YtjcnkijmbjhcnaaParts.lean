/- What is reached from a vertex among some, and the parts of some vertices. -/
import Derived.Test.YtjcnkijmbjhcnaaCount
import Derived.Test.YtjcnkijmbjhcnaaMatchCount
namespace Go.Proofs.Ytjcnkijmbjhcnaa
section
variable {S O A : Type}
theorem lp_inl {step : S → Option (S ⊕ O)} {s s' : S} (h : step s = some (.inl s')) : lp step s = lp step s' := by rw [lp_unfold, h]
theorem lp_inr {step : S → Option (S ⊕ O)} {s : S} {o : O} (h : step s = some (.inr o)) : lp step s = some o := by rw [lp_unfold, h]
/-- a counting loop told by what holds on its way -/
theorem lp_ex {step : S → Option (S ⊕ O)} (st : Nat → A → S) (n : Nat) (Inv : Nat → A → Prop) (Q : O → Prop) (h : ∀ k a, k < n → Inv k a → ∃ a', step (st k a) = some (.inl (st (k + 1) a')) ∧ Inv (k + 1) a')
    (he : ∀ a, Inv n a → ∃ o, step (st n a) = some (.inr o) ∧ Q o) : ∀ (m k : Nat) (a : A), k + m = n → Inv k a → ∃ o, lp step (st k a) = some o ∧ Q o
  | 0, k, a, hk, hi => by
    have e : k = n := by omega
    subst e
    obtain ⟨o, h1, h2⟩ := he a hi
    exact ⟨o, lp_inr h1, h2⟩
  | m + 1, k, a, hk, hi => by
    obtain ⟨a', h1, h2⟩ := h k a (by omega) hi
    obtain ⟨o, h3, h4⟩ := lp_ex st n Inv Q h he m (k + 1) a' (by omega) h2
    exact ⟨o, by rw [lp_inl h1, h3], h4⟩
end
/-- one set in another -/
def SubB (s t : Nat) : Prop := ∀ j, s.testBit j = true → t.testBit j = true
theorem SubB.antisymm {s t : Nat} (h : SubB s t) (h' : SubB t s) : s = t := bits_ext fun j => by
  cases e : s.testBit j with
  | true => exact (h j e).symm
  | false => cases e2 : t.testBit j with
    | false => rfl
    | true => rw [h' j e2] at e; cases e
theorem SubB.le {s t : Nat} (h : SubB s t) : s ≤ t := by
  have e : s = t &&& s := bits_ext fun j => by
    rw [Nat.testBit_and]
    cases e : s.testBit j with
    | true => rw [h j e]; rfl
    | false => simp
  rw [e]; exact Nat.and_le_left
theorem SubB.refl (s : Nat) : SubB s s := fun _ h => h
theorem SubB.trans {s t u : Nat} (h : SubB s t) (h' : SubB t u) : SubB s u := fun j hj => h' j (h j hj)
theorem SubB.or_left (s t : Nat) : SubB s (s ||| t) := fun j h => by rw [Nat.testBit_or, h]; rfl
theorem SubB.or {s t u : Nat} (h : SubB s u) (h' : SubB t u) : SubB (s ||| t) u := fun j hj => by
  rw [Nat.testBit_or, Bool.or_eq_true] at hj
  exact hj.elim (h j) (h' j)
/-- what the neighbours among some leave as it is -/
def Shut (a : List Nat) (i t : Nat) : Prop := ∀ u, t.testBit u = true → SubB (a.getD u 0 &&& i) t
open Classical in
/-- what is reached from a vertex among some -/
noncomputable def reach (a : List Nat) (i v : Nat) : Nat := mk (ints ((List.range 16).filter fun w => decide (∀ t, t < 2 ^ 16 → t.testBit v = true → Shut a i t → t.testBit w = true)))
open Classical in
theorem reach_bit {a : List Nat} {i v w : Nat} : (reach a i v).testBit w = true ↔ w < 16 ∧ ∀ t, t < 2 ^ 16 → t.testBit v = true → Shut a i t → t.testBit w = true := by
  unfold reach
  rw [mk_bit, decide_eq_true_iff]
  constructor
  · rintro ⟨x, hx, rfl⟩
    unfold ints at hx
    obtain ⟨u, hu, rfl⟩ := List.mem_map.1 hx
    rw [List.mem_filter, List.mem_range, decide_eq_true_iff] at hu
    simpa using hu
  · rintro ⟨h1, h2⟩
    exact ⟨(w : Int), List.mem_map.2 ⟨w, List.mem_filter.2 ⟨List.mem_range.2 h1, by simpa using h2⟩, rfl⟩, by simp⟩
theorem reach_lt (a : List Nat) (i v : Nat) : reach a i v < 2 ^ 16 := by
  unfold reach
  refine mk_lt fun x hx => ?_
  unfold ints at hx
  obtain ⟨u, hu, rfl⟩ := List.mem_map.1 hx
  have := List.mem_range.1 (List.mem_filter.1 hu).1
  omega
theorem reach_self {a : List Nat} {i v : Nat} (hv : v < 16) : (reach a i v).testBit v = true := reach_bit.2 ⟨hv, fun t _ h _ => h⟩
theorem reach_least {a : List Nat} {i v t : Nat} (ht : t < 2 ^ 16) (hv : t.testBit v = true) (hc : Shut a i t) : SubB (reach a i v) t := fun w hw => (reach_bit.1 hw).2 t ht hv hc
theorem reach_closed {a : List Nat} {i v : Nat} (hi : i < 2 ^ 16) : Shut a i (reach a i v) := fun u hu w hw => by
  refine reach_bit.2 ⟨bit_lt hi (by rw [Nat.testBit_and, Bool.and_eq_true] at hw; exact hw.2), fun t ht hv hc => hc u ((reach_bit.1 hu).2 t ht hv hc) w hw⟩
theorem reach_in {a : List Nat} {i v : Nat} (hi : i < 2 ^ 16) (hv : i.testBit v = true) : SubB (reach a i v) i := reach_least hi hv fun u _ w hw => by rw [Nat.testBit_and, Bool.and_eq_true] at hw; exact hw.2
/-- reached, and closed: all that is reached -/
theorem reach_eq_of {a : List Nat} {i v s : Nat} (hs : s < 2 ^ 16) (hv : s.testBit v = true) (hin : SubB s (reach a i v)) (hc : Shut a i s) : s = reach a i v := SubB.antisymm hin (reach_least hs hv hc)
theorem sub_lt {s t : Nat} (h : SubB s t) (ht : t < 2 ^ 16) : s < 2 ^ 16 := Nat.lt_of_le_of_lt h.le ht
theorem sub_step {a : List Nat} {i v s u : Nat} (hi : i < 2 ^ 16) (hin : SubB s (reach a i v)) (hu : s.testBit u = true) : SubB (a.getD u 0 &&& i) (reach a i v) := reach_closed hi u (hin u hu)
theorem sdiff_zero {s t : Nat} : sdiff s t = 0 ↔ SubB s t := by
  constructor
  · intro h j hj
    have : (sdiff s t).testBit j = false := by rw [h, Nat.zero_testBit]
    rw [sdiff_bit, hj] at this
    simpa using this
  · intro h
    apply bits_ext; intro j
    rw [sdiff_bit, Nat.zero_testBit]
    cases e : s.testBit j with
    | true => rw [h j e]; rfl
    | false => rfl
theorem lt_or_of_new {s t : Nat} (h : ¬ SubB t s) : s < s ||| t := by
  have h1 := (SubB.or_left s t).le
  rcases Nat.lt_or_ge s (s ||| t) with g | g
  · exact g
  · exact absurd (fun j hj => by have e : s ||| t = s := by omega
                                 rw [← e, Nat.testBit_or, hj]; simp) h
theorem reach_low {a : List Nat} {i : Nat} (h : i ≠ 0) (hi : i < 2 ^ 16) : (reach a i (low i)).testBit (low i) = true := reach_self (low_lt h hi)
theorem sdiff_reach_lt {a : List Nat} {i : Nat} (h : i ≠ 0) (hi : i < 2 ^ 16) : sdiff i (reach a i (low i)) < i := by
  have h1 := sdiff_le i (reach a i (low i))
  rcases Nat.lt_or_ge (sdiff i (reach a i (low i))) i with g | g
  · exact g
  · have e : sdiff i (reach a i (low i)) = i := by omega
    have h2 : (sdiff i (reach a i (low i))).testBit (low i) = true := by rw [e]; exact low_bit h
    rw [sdiff_bit, reach_low h hi] at h2
    simp at h2
/-- the parts of some vertices -/
noncomputable def partsOf (a : List Nat) (i : Nat) : List Nat :=
  if h : i = 0 ∨ 2 ^ 16 ≤ i then [] else reach a i (low i) :: partsOf a (sdiff i (reach a i (low i)))
termination_by i
decreasing_by exact sdiff_reach_lt (fun e => h (.inl e)) (by omega)
theorem partsOf_zero (a : List Nat) : partsOf a 0 = [] := by rw [partsOf]; simp
theorem partsOf_cons {a : List Nat} {i : Nat} (h : i ≠ 0) (hi : i < 2 ^ 16) : partsOf a i = reach a i (low i) :: partsOf a (sdiff i (reach a i (low i))) := by
  rw [partsOf, dif_neg (by omega)]
theorem sdiff_reach_card {a : List Nat} {i : Nat} (h : i ≠ 0) (hi : i < 2 ^ 16) : card (sdiff i (reach a i (low i))) < card i := by
  have h1 := card_del (low_bit h) hi
  have h2 : card (sdiff i (reach a i (low i))) ≤ card (sdiff i (2 ^ low i)) := card_mono fun j hj => by
    rw [sdiff_bit, Bool.and_eq_true, Bool.not_eq_true'] at hj
    rw [delbit_bit, hj.1, Bool.true_and, Bool.not_eq_true', decide_eq_false_iff_not]
    intro e; subst e
    rw [reach_low h hi] at hj; cases hj.2
  omega
theorem partsOf_len {a : List Nat} : ∀ {i : Nat}, i < 2 ^ 16 → (partsOf a i).length ≤ card i := by
  intro i
  induction i using Nat.strongRecOn with
  | _ i ih =>
    intro hi
    by_cases h : i = 0
    · subst h; rw [partsOf_zero]; simp
    · have h1 := sdiff_reach_lt (a := a) h hi
      have h2 := sdiff_reach_card (a := a) h hi
      rw [partsOf_cons h hi, List.length_cons]
      have := ih _ h1 (by omega)
      omega
theorem partsOf_lt {a : List Nat} : ∀ {i : Nat}, i < 2 ^ 16 → ∀ s ∈ partsOf a i, s < 2 ^ 16 := by
  intro i
  induction i using Nat.strongRecOn with
  | _ i ih =>
    intro hi s hs
    by_cases h : i = 0
    · subst h; rw [partsOf_zero] at hs; cases hs
    · have h1 := sdiff_reach_lt (a := a) h hi
      rw [partsOf_cons h hi] at hs
      rcases List.mem_cons.1 hs with e | e
      · rw [e]; exact reach_lt ..
      · exact ih _ h1 (by omega) s e
/-- how many of an odd number -/
def oddIn (l : List Nat) : Nat := (l.map fun s => card s % 2).sum
theorem oddIn_le : ∀ l : List Nat, oddIn l ≤ l.length
  | [] => by simp [oddIn]
  | x :: l => by
    have := oddIn_le l
    unfold oddIn at this ⊢
    rw [List.map_cons, List.sum_cons, List.length_cons]; omega
end Go.Proofs.Ytjcnkijmbjhcnaa

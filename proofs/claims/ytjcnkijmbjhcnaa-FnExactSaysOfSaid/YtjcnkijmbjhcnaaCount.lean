/- Counting sets: loops over all sets, one to one. -/
import Derived.Test.YtjcnkijmbjhcnaaSetF
namespace Go.Proofs.Ytjcnkijmbjhcnaa
theorem nodup_filter {p : Nat → Bool} (n : Nat) : ((List.range n).filter p).Nodup := List.Nodup.sublist List.filter_sublist List.nodup_range
theorem nodup_map_on {f : Nat → Nat} : ∀ {l : List Nat}, l.Nodup → (∀ x ∈ l, ∀ y ∈ l, f x = f y → x = y) → (l.map f).Nodup
  | [], _, _ => List.nodup_nil
  | x :: l, hn, h => by
    rw [List.nodup_cons] at hn
    rw [List.map_cons, List.nodup_cons]
    refine ⟨fun hm => ?_, nodup_map_on hn.2 (fun a ha b hb => h a (List.mem_cons_of_mem _ ha) b (List.mem_cons_of_mem _ hb))⟩
    obtain ⟨y, hy, e⟩ := List.mem_map.1 hm
    have := h y (List.mem_cons_of_mem _ hy) x (List.mem_cons_self ..) e
    subst this; exact hn.1 hy
theorem count_bij {N : Nat} {p q : Nat → Bool} (f g : Nat → Nat) (hf : ∀ t, t < N → p t = true → f t < N ∧ q (f t) = true ∧ g (f t) = t) (hg : ∀ t, t < N → q t = true → g t < N ∧ p (g t) = true ∧ f (g t) = t) :
    (List.range N).countP p = (List.range N).countP q := by
  rw [List.countP_eq_length_filter, List.countP_eq_length_filter]
  have hn1 : ((List.range N).filter q).Nodup := nodup_filter N
  have hn2 : (((List.range N).filter p).map f).Nodup := by
    refine nodup_map_on (nodup_filter N) ?_
    intro x hx y hy e
    rw [List.mem_filter, List.mem_range] at hx hy
    rw [← (hf x hx.1 hx.2).2.2, ← (hf y hy.1 hy.2).2.2, e]
  have hperm : (((List.range N).filter p).map f).Perm ((List.range N).filter q) := by
    rw [List.perm_ext_iff_of_nodup hn2 hn1]
    intro t
    rw [List.mem_map, List.mem_filter, List.mem_range]
    constructor
    · rintro ⟨x, hx, rfl⟩
      rw [List.mem_filter, List.mem_range] at hx
      exact ⟨(hf x hx.1 hx.2).1, (hf x hx.1 hx.2).2.1⟩
    · rintro ⟨h1, h2⟩
      exact ⟨g t, List.mem_filter.2 ⟨List.mem_range.2 (hg t h1 h2).1, (hg t h1 h2).2.1⟩, (hg t h1 h2).2.2⟩
  rw [← hperm.length_eq, List.length_map]
theorem countP_split {N : Nat} (p r : Nat → Bool) : (List.range N).countP p = (List.range N).countP (fun t => p t && !r t) + (List.range N).countP (fun t => p t && r t) := by
  induction N with
  | zero => rfl
  | succ n ih =>
    rw [List.range_succ, List.countP_append, List.countP_append, List.countP_append, ih]
    simp only [List.countP_cons, List.countP_nil]
    cases p n <;> cases r n <;> simp <;> omega
theorem countP_le_range {N : Nat} (p : Nat → Bool) : (List.range N).countP p ≤ N := by have := List.countP_le_length (p := p) (l := List.range N); simpa using this
theorem countP_snoc (k : Nat) (p : Nat → Bool) : (List.range (k + 1)).countP p = (List.range k).countP p + (if p k = true then 1 else 0) := by
  rw [List.range_succ, List.countP_append]; simp [List.countP_cons]
/-- a loop over all sets in the reference, that counts -/
theorem lp_count {step : Int × Int → Option ((Int × Int) ⊕ (Int ⊕ Int))} (N : Nat) (p : Nat → Bool) (hN : N ≤ 65536) (h1 : ∀ k, k < N → ∀ c : Nat, c ≤ 65536 → step ((c : Int), (k : Int)) = some (.inl (((c + (if p k = true then 1 else 0) : Nat) : Int), ((k + 1 : Nat) : Int))))
    (h2 : ∀ c : Nat, c ≤ 65536 → step ((c : Int), (N : Int)) = some (.inr (.inl (c : Int)))) : lp step (0, 0) = some (.inl (((List.range N).countP p : Nat) : Int)) := by
  have := lp_nums (step := step) N (fun k => (((List.range k).countP p : Nat) : Int)) (o := .inl (((List.range N).countP p : Nat) : Int)) (fun k hk => by
    rw [h1 k hk _ (by have := countP_le_range (N := k) p; omega), countP_snoc]) (h2 _ (by have := countP_le_range (N := N) p; omega))
  simpa using this
/-- .. and in the program -/
theorem lp_countB {step : Int × BitVec 32 → Option ((Int × BitVec 32) ⊕ (Int ⊕ Int))} (N : Nat) (p : Nat → Bool) (hN : N ≤ 65536) (h1 : ∀ k, k < N → ∀ c : Nat, c ≤ 65536 → step ((c : Int), BitVec.ofNat 32 k) = some (.inl (((c + (if p k = true then 1 else 0) : Nat) : Int), BitVec.ofNat 32 (k + 1))))
    (h2 : ∀ c : Nat, c ≤ 65536 → step ((c : Int), BitVec.ofNat 32 N) = some (.inr (.inl (c : Int)))) : lp step (0, 0#32) = some (.inl (((List.range N).countP p : Nat) : Int)) := by
  refine lp_upto (fun k => ((((List.range k).countP p : Nat) : Int), BitVec.ofNat 32 k)) N (by simp) (fun k hk => ?_) (h2 _ (by have := countP_le_range (N := N) p; omega))
  rw [h1 k hk _ (by have := countP_le_range (N := k) p; omega), countP_snoc]
theorem bv_le {a b : Nat} (ha : a < 2 ^ 32) (hb : b < 2 ^ 32) : BitVec.ofNat 32 a ≤ BitVec.ofNat 32 b ↔ a ≤ b := by rw [BitVec.le_def, bv_toNat ha, bv_toNat hb]
theorem bv_lt {a b : Nat} (ha : a < 2 ^ 32) (hb : b < 2 ^ 32) : BitVec.ofNat 32 a < BitVec.ofNat 32 b ↔ a < b := by rw [BitVec.lt_def, bv_toNat ha, bv_toNat hb]
theorem bv_succ (a : Nat) : BitVec.ofNat 32 a + 1#32 = BitVec.ofNat 32 (a + 1) := by apply BitVec.eq_of_toNat_eq; simp
def rulesMany (a : List Nat) : Nat := (List.range (2 ^ a.length)).countP fun s => near a s == 2 ^ a.length - 1
def stabMany (a : List Nat) : Nat := (List.range (2 ^ a.length)).countP fun s => stab a s
/-- the stable sets within s -/
def stabIn (a : List Nat) (s : Nat) : Nat := (List.range (2 ^ a.length)).countP fun t => stab a t && (t &&& s == t)
theorem sub_iff {t s : Nat} : t &&& s = t ↔ ∀ j, t.testBit j = true → s.testBit j = true := by
  constructor
  · intro h j hj
    rw [← h, Nat.testBit_and] at hj; simp at hj; exact hj.2
  · intro h
    apply bits_ext
    intro j
    rw [Nat.testBit_and]
    by_cases e : t.testBit j = true
    · rw [e, h j e]; rfl
    · simp [e]
theorem stab_iff {a : List Nat} {t : Nat} : stab a t = true ↔ ∀ v, v < a.length → t.testBit v = true → ∀ j, (a.getD v 0).testBit j = true → t.testBit j = false := by
  unfold stab each
  rw [List.all_eq_true]
  constructor
  · intro h v hv hb j hj
    have := h v (List.mem_range.2 hv)
    rw [hb] at this
    have h0 : a.getD v 0 &&& t = 0 := by simpa using this
    have h1 : (a.getD v 0 &&& t).testBit j = false := by rw [h0]; simp
    rw [Nat.testBit_and, hj] at h1; simpa using h1
  · intro h v hv
    rw [List.mem_range] at hv
    by_cases hb : t.testBit v = true
    · have h0 : a.getD v 0 &&& t = 0 := by
        apply bits_ext
        intro j
        rw [Nat.testBit_and, Nat.zero_testBit]
        cases hj : (a.getD v 0).testBit j with
        | true => rw [h v hv hb j hj]; rfl
        | false => rfl
      simp only [h0]; simp
    · simp [hb]
theorem stabIn_zero (a : List Nat) : stabIn a 0 = 1 := by
  unfold stabIn
  have h2 : 0 < 2 ^ a.length := Nat.two_pow_pos _
  obtain ⟨m, hm⟩ : ∃ m, 2 ^ a.length = m + 1 := ⟨2 ^ a.length - 1, by omega⟩
  rw [hm, List.range_succ_eq_map, List.countP_cons, List.countP_map]
  have h0 : stab a 0 = true := stab_iff.2 (fun v _ h => by simp at h)
  have : List.countP ((fun t => stab a t && (t &&& 0 == t)) ∘ Nat.succ) (List.range m) = 0 := by
    rw [List.countP_eq_zero]; intro t _; simp
  rw [this]; simp [h0]
theorem setbit_bit (t v j : Nat) : (t ||| 2 ^ v).testBit j = (t.testBit j || decide (v = j)) := by rw [Nat.testBit_or, Nat.testBit_two_pow]
theorem delbit_bit (t v j : Nat) : (sdiff t (2 ^ v)).testBit j = (t.testBit j && !decide (v = j)) := by rw [sdiff_bit, Nat.testBit_two_pow]
theorem rest_eq {s : Nat} (h : s ≠ 0) : s &&& (s - 1) = sdiff s (2 ^ low s) := by
  apply bits_ext
  intro j
  rw [rest_bit h, delbit_bit]
  by_cases e : j = low s
  · subst e; simp
  · simp [e, Ne.symm e]
theorem stabIn_step {a : List Nat} (hA : Sym a) {s : Nat} (h : s ≠ 0) (hs : s < 2 ^ a.length) :
    stabIn a s = stabIn a (sdiff s (2 ^ low s)) + stabIn a (sdiff (sdiff s (2 ^ low s)) (a.getD (low s) 0)) := by
  have hv : low s < a.length := low_lt h hs
  have hvp : 2 ^ low s < 2 ^ a.length := Nat.pow_lt_pow_right (by decide) hv
  have hgd : a.getD (low s) 0 = a[low s] := getD_get hv
  unfold stabIn
  rw [countP_split _ (fun t => t.testBit (low s))]
  congr 1
  · apply List.countP_congr
    intro t _
    simp only [Bool.and_eq_true, Bool.not_eq_true', beq_iff_eq, sub_iff]
    constructor
    · rintro ⟨⟨h1, h2⟩, h3⟩
      refine ⟨h1, fun j hj => ?_⟩
      rw [delbit_bit, h2 j hj]
      by_cases e : low s = j
      · subst e; rw [h3] at hj; cases hj
      · simp [e]
    · rintro ⟨h1, h2⟩
      refine ⟨⟨h1, fun j hj => ?_⟩, ?_⟩
      · have := h2 j hj; rw [delbit_bit] at this; simp at this; exact this.1
      · cases e : t.testBit (low s) with
        | false => rfl
        | true => have := h2 _ e; rw [delbit_bit] at this; simp at this
  · refine count_bij (fun t => sdiff t (2 ^ low s)) (fun t => t ||| 2 ^ low s) (fun t ht hp => ?_) (fun t ht hp => ?_)
    · simp only [Bool.and_eq_true, beq_iff_eq, sub_iff, stab_iff] at hp ⊢
      obtain ⟨⟨h1, h2⟩, h3⟩ := hp
      refine ⟨sdiff_lt ht, ⟨fun v hv' hb j hj => ?_, fun j hj => ?_⟩, ?_⟩
      · rw [delbit_bit] at hb ⊢
        simp only [Bool.and_eq_true] at hb
        rw [h1 v hv' hb.1 j hj]; rfl
      · rw [delbit_bit] at hj
        simp only [Bool.and_eq_true, Bool.not_eq_true', decide_eq_false_iff_not] at hj
        rw [sdiff_bit, delbit_bit, h2 j hj.1]
        have : (a.getD (low s) 0).testBit j = false := by
          cases e : (a.getD (low s) 0).testBit j with
          | false => rfl
          | true => have := h1 _ hv h3 j e; rw [hj.1] at this; cases this
        rw [this]; simp [hj.2]
      · apply bits_ext
        intro j
        rw [setbit_bit, delbit_bit]
        by_cases e : low s = j
        · subst e; simp [h3]
        · simp [e]
    · simp only [Bool.and_eq_true, beq_iff_eq, sub_iff, stab_iff] at hp ⊢
      obtain ⟨h1, h2⟩ := hp
      have hno : ∀ j, t.testBit j = true → s.testBit j = true ∧ low s ≠ j ∧ (a.getD (low s) 0).testBit j = false := fun j hj => by
        have := h2 j hj
        rw [sdiff_bit, delbit_bit] at this
        simp only [Bool.and_eq_true, Bool.not_eq_true', decide_eq_false_iff_not] at this
        exact ⟨this.1.1, this.1.2, this.2⟩
      refine ⟨or_lt ht hvp, ⟨⟨fun v hv' hb j hj => ?_, fun j hj => ?_⟩, ?_⟩, ?_⟩
      · rw [setbit_bit] at hb ⊢
        rw [Bool.or_eq_true] at hb
        rw [Bool.or_eq_false_iff]
        rcases hb with hb | hb
        · refine ⟨h1 v hv' hb j hj, ?_⟩
          rw [decide_eq_false_iff_not]
          intro e; subst e
          have h3 := (hno v hb).2.2
          rw [getD_get hv'] at hj
          rw [hgd, hA.sym _ _ hv hv', hj] at h3; cases h3
        · have e : low s = v := by simpa using hb
          subst e
          refine ⟨?_, ?_⟩
          · cases q : t.testBit j with
            | false => rfl
            | true => have := (hno j q).2.2; rw [hj] at this; cases this
          · rw [decide_eq_false_iff_not]
            intro e; subst e
            rw [hgd, hA.irr _ hv] at hj; cases hj
      · rw [setbit_bit, Bool.or_eq_true] at hj
        rcases hj with hj | hj
        · exact (hno j hj).1
        · have e : low s = j := by simpa using hj
          subst e; exact low_bit h
      · rw [setbit_bit]; simp
      · apply bits_ext
        intro j
        rw [delbit_bit, setbit_bit]
        by_cases e : low s = j
        · subst e
          cases q : t.testBit (low s) with
          | false => simp
          | true => exact absurd rfl (hno _ q).2.1
        · simp [e]
theorem stabIn_le (a : List Nat) (s : Nat) : stabIn a s ≤ 2 ^ a.length := countP_le_range _
theorem stabIn_all {a : List Nat} : stabIn a (2 ^ a.length - 1) = stabMany a := by
  unfold stabIn stabMany
  apply List.countP_congr
  intro t ht
  rw [List.mem_range] at ht
  simp only [Bool.and_eq_true, beq_iff_eq, sub_iff]
  exact ⟨fun h => h.1, fun h => ⟨h, fun j hj => by rw [Nat.testBit_two_pow_sub_one]; simpa using bit_lt ht hj⟩⟩
end Go.Proofs.Ytjcnkijmbjhcnaa

/- How many matchings there are: the reference's table. -/
import Derived.Test.YtjcnkijmbjhcnaaTab
namespace Go.Proofs.Ytjcnkijmbjhcnaa
theorem low_pow_le {n : Nat} (h : n ≠ 0) : 2 ^ low n ≤ n := by
  obtain ⟨m, e⟩ := low_spec h
  have hp : 0 < 2 ^ low n := Nat.two_pow_pos _
  have : 2 ^ low n * 1 ≤ 2 ^ low n * (2 * m + 1) := Nat.mul_le_mul_left _ (by omega)
  omega
theorem i64_lowbit {n : Nat} (h : n ≠ 0) (hn : n < 2 ^ 62) : i64and (n : Int) (0 - (n : Int)) = ((2 ^ low n : Nat) : Int) := by
  have hle := low_pow_le h
  have hl := low_lt h hn
  obtain ⟨m, e⟩ := low_spec h
  have e0 : BitVec.ofInt 64 (0 - (n : Int)) = -BitVec.ofNat 64 n := by
    apply BitVec.eq_of_toNat_eq
    rw [BitVec.toNat_ofInt, BitVec.toNat_neg, BitVec.toNat_ofNat, Nat.mod_eq_of_lt (show n < 2 ^ 64 by omega)]
    omega
  have key : (BitVec.ofInt 64 (n : Int) &&& BitVec.ofInt 64 (0 - (n : Int))).toNat = 2 ^ low n := by
    apply bits_ext
    intro j
    rw [e0, BitVec.ofInt_natCast, BitVec.toNat_and, BitVec.toNat_neg, BitVec.toNat_ofNat, Nat.mod_eq_of_lt (show n < 2 ^ 64 by omega), Nat.testBit_and, Nat.testBit_two_pow, Nat.mod_eq_of_lt (by omega)]
    have e1 : 2 ^ 64 - n = 2 ^ 64 - ((n - 1) + 1) := by omega
    rw [e1, Nat.testBit_two_pow_sub_succ (by omega)]
    have e2 : n.testBit j = (2 ^ low n * (2 * m + 1)).testBit j := by rw [← e]
    have e3 : (n - 1).testBit j = (2 ^ low n * (2 * m + 1) - 1).testBit j := by rw [← e]
    rw [e2, e3, testBit_odd, testBit_pred]
    rcases Nat.lt_trichotomy j (low n) with g | g | g
    · simp [g, show ¬ j = low n by omega, show ¬ low n = j by omega, show ¬ low n < j by omega]
    · simp [g, show low n < 64 by omega]
    · simp [show ¬ j = low n by omega, show ¬ low n = j by omega, show ¬ j < low n by omega, g]
      exact fun h _ => h
  unfold i64and
  rw [BitVec.toInt_eq_toNat_of_lt (by rw [key]; omega), key]
theorem i64_rest {n : Nat} (h : n ≠ 0) (hn : n < 2 ^ 62) : i64and (n : Int) ((n : Int) - 1) = ((sdiff n (2 ^ low n) : Nat) : Int) := by
  rw [show (n : Int) - 1 = ((n - 1 : Nat) : Int) by omega, i64and_nat (by omega) (by omega), rest_eq h]
/-- how a set's count comes of those of smaller ones -/
def ofC (p : Bool) (w : Int) (l : List Int) : Int := (if p = true then 0 else w) + l.sum
theorem sum_nonneg : ∀ {l : List Int}, (∀ x ∈ l, 0 ≤ x) → 0 ≤ l.sum
  | [], _ => by simp
  | x :: l, h => by
    rw [List.sum_cons]
    have := h x (List.mem_cons_self ..)
    have := sum_nonneg (l := l) (fun y hy => h y (List.mem_cons_of_mem _ hy))
    omega
theorem ofC_ok (p : Bool) (w : Int) (l : List Int) (h0 : 0 ≤ w) (hl : ∀ x ∈ l, 0 ≤ x) : 0 ≤ ofC p w l ∧ ofC p w l ≤ w + l.sum := by
  have := sum_nonneg hl
  unfold ofC; split <;> omega
theorem idx_set_ne {β : Type} {l : List Int} {s j : Nat} {x y : Int} {f : Int → Option β} (h : s ≠ j) (hx : l[j]? = some y) : idx (l.set s x) (j : Int) f = f y :=
  idx_of (Int.natCast_nonneg _) (by rw [Int.toNat_natCast, List.getElem?_set_ne h]; exact hx)
theorem idx_set_eq {β : Type} {l : List Int} {s : Nat} {x : Int} {f : Int → Option β} (h : s < l.length) : idx (l.set s x) (s : Int) f = f x :=
  idx_of (Int.natCast_nonneg _) (by rw [Int.toNat_natCast, List.getElem?_set_self h])
/-- a loop that adds up -/
theorem lp_sum {step : Int × Int → Option ((Int × Int) ⊕ (Int ⊕ Int))} (l : List Int) (x0 : Int) (h0 : 0 ≤ x0) (hx : ∀ x ∈ l, 0 ≤ x) (hb : x0 + l.sum ≤ 4000000000000000) (hl : l.length ≤ 1048576)
    (h1 : ∀ (k : Nat) (hk : k < l.length) (x : Int), InI (x + l[k]) → InI ((k : Int) + 1) → step (x, (k : Int)) = some (.inl (x + l[k], (k : Int) + 1))) (h2 : ∀ x, step (x, (l.length : Int)) = some (.inr (.inl x))) :
    lp step (x0, 0) = some (.inl (x0 + l.sum)) := by
  have hpart : ∀ k, k ≤ l.length → 0 ≤ (l.take k).sum ∧ (l.take k).sum ≤ l.sum := by
    intro k hk
    have e : l.sum = (l.take k).sum + (l.drop k).sum := by rw [← List.sum_append, List.take_append_drop]
    have a1 := sum_nonneg (l := l.take k) (fun x h => hx x (List.mem_of_mem_take h))
    have a2 := sum_nonneg (l := l.drop k) (fun x h => hx x (List.mem_of_mem_drop h))
    omega
  refine lp_upto (fun k => (x0 + (l.take k).sum, (k : Int))) l.length (by simp) (fun k hk => ?_) ?_
  · have hs : (l.take (k + 1)).sum = (l.take k).sum + l[k] := by rw [take_succ_of hk, List.sum_append]; simp
    have p0 := hpart k (by omega)
    have p1 := hpart (k + 1) (by omega)
    have := hx _ (List.getElem_mem hk)
    rw [h1 k hk _ (inI (by omega) (by omega)) (inI (by omega) (by omega)), hs]
    refine inl_eq (pair_eq (by omega) (by omega))
  · rw [List.take_length]; exact h2 _
theorem mates_vals {a : List Nat} {p : Bool} {s : Nat} (h : s ≠ 0) (hs : s < 2 ^ 16) : ∀ x ∈ (mates a s).map (fun u => tabv a 1 (ofC p) (sdiff (sdiff s (2 ^ low s)) (2 ^ u))), 0 ≤ x := by
  intro x hx
  obtain ⟨u, _, rfl⟩ := List.mem_map.1 hx
  have hr := less_rest h
  have hle := sdiff_le (sdiff s (2 ^ low s)) (2 ^ u)
  exact (tabv_small a (ofC p) (ofC_ok p) (by omega)).1
end Go.Proofs.Ytjcnkijmbjhcnaa

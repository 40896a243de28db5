/- Sets of small numbers as bits: natural numbers, what is in them, their least, how many. No program in sight. -/
import Derived.Test.YtjcnkijmbjhcnaaLib
namespace Go.Proofs.Ytjcnkijmbjhcnaa
/-! ## natural numbers by their bits -/
theorem odd_part : ∀ n : Nat, 0 < n → ∃ k m, n = 2 ^ k * (2 * m + 1) := by
  intro n
  induction n using Nat.strongRecOn with
  | _ n ih =>
    intro h
    by_cases e : n % 2 = 1
    · exact ⟨0, n / 2, by omega⟩
    · obtain ⟨k, m, hk⟩ := ih (n / 2) (by omega) (by omega)
      refine ⟨k + 1, m, ?_⟩
      rw [Nat.pow_succ, Nat.mul_comm (2 ^ k) 2, Nat.mul_assoc, ← hk]; omega
theorem testBit_odd (k m j : Nat) : (2 ^ k * (2 * m + 1)).testBit j = (decide (j = k) || (decide (k < j) && m.testBit (j - k - 1))) := by
  rw [Nat.testBit_two_pow_mul]
  by_cases h : k ≤ j
  · rw [decide_eq_true h, Bool.true_and]
    obtain ⟨i, rfl⟩ := Nat.exists_eq_add_of_le h
    rw [Nat.add_sub_cancel_left]
    cases i with
    | zero => simp
    | succ i =>
      rw [Nat.testBit_succ, show (2 * m + 1) / 2 = m by omega]
      simp
  · rw [decide_eq_false h, decide_eq_false (by omega : ¬ j = k), decide_eq_false (by omega : ¬ k < j)]; rfl
theorem odd_pred (k m : Nat) : 2 ^ k * (2 * m + 1) - 1 = 2 ^ (k + 1) * m + (2 ^ k - 1) := by
  have hp : 0 < 2 ^ k := Nat.two_pow_pos k
  rw [Nat.mul_add, Nat.mul_one, Nat.pow_succ, Nat.mul_assoc]; omega
theorem testBit_pred (k m j : Nat) : (2 ^ k * (2 * m + 1) - 1).testBit j = (decide (j < k) || (decide (k < j) && m.testBit (j - k - 1))) := by
  have hp : 0 < 2 ^ k := Nat.two_pow_pos k
  rw [odd_pred, Nat.testBit_two_pow_mul_add _ (by rw [Nat.pow_succ]; omega)]
  by_cases h : j < k + 1
  · rw [if_pos h, Nat.testBit_two_pow_sub_one, decide_eq_false (by omega : ¬ k < j), Bool.false_and, Bool.or_false]
  · rw [if_neg h, decide_eq_false (by omega : ¬ j < k), decide_eq_true (by omega : k < j), Bool.false_or, Bool.true_and, show j - (k + 1) = j - k - 1 by omega]
theorem and_pred (k m : Nat) : 2 ^ k * (2 * m + 1) &&& (2 ^ k * (2 * m + 1) - 1) = 2 ^ (k + 1) * m := by
  apply Nat.eq_of_testBit_eq
  intro j
  rw [Nat.testBit_and, testBit_odd, testBit_pred, Nat.testBit_two_pow_mul]
  rcases Nat.lt_trichotomy j k with h | h | h
  · simp [h, show ¬ j = k by omega, show ¬ k < j by omega, show ¬ k + 1 ≤ j by omega]
  · subst h; simp [show ¬ j + 1 ≤ j by omega]
  · simp [h, show ¬ j = k by omega, show ¬ j < k by omega, show k + 1 ≤ j by omega, show j - (k + 1) = j - k - 1 by omega]
/-- the least number in a set that is not empty -/
def low (n : Nat) : Nat := if h : n = 0 then 0 else if n % 2 = 1 then 0 else low (n / 2) + 1
theorem low_odd : ∀ k m : Nat, low (2 ^ k * (2 * m + 1)) = k
  | 0, m => by unfold low; rw [Nat.pow_zero, Nat.one_mul, dif_neg (by omega), if_pos (by omega)]
  | k + 1, m => by
    have e : 2 ^ (k + 1) * (2 * m + 1) = 2 * (2 ^ k * (2 * m + 1)) := by rw [Nat.pow_succ, Nat.mul_comm (2 ^ k) 2, Nat.mul_assoc]
    have hp : 0 < 2 ^ k * (2 * m + 1) := Nat.mul_pos (Nat.two_pow_pos k) (by omega)
    unfold low
    rw [dif_neg (by omega), if_neg (by omega), show 2 ^ (k + 1) * (2 * m + 1) / 2 = 2 ^ k * (2 * m + 1) by omega, low_odd k m]
theorem low_spec {n : Nat} (h : n ≠ 0) : ∃ m, n = 2 ^ low n * (2 * m + 1) := by
  obtain ⟨k, m, e⟩ := odd_part n (by omega)
  exact ⟨m, by conv => lhs; rw [e]
               rw [e, low_odd]⟩
theorem low_bit {n : Nat} (h : n ≠ 0) : n.testBit (low n) = true := by
  obtain ⟨m, e⟩ := low_spec h
  have e2 : n.testBit (low n) = (2 ^ low n * (2 * m + 1)).testBit (low n) := by rw [← e]
  rw [e2, testBit_odd]; simp
theorem low_least {n j : Nat} (h : n ≠ 0) (hj : j < low n) : n.testBit j = false := by
  obtain ⟨m, e⟩ := low_spec h
  have e2 : n.testBit j = (2 ^ low n * (2 * m + 1)).testBit j := by rw [← e]
  rw [e2, testBit_odd, decide_eq_false (by omega), decide_eq_false (by omega)]; rfl
theorem low_lt {n k : Nat} (h : n ≠ 0) (hn : n < 2 ^ k) : low n < k := by
  have := low_bit h
  rcases Nat.lt_or_ge (low n) k with g | g
  · exact g
  · have e : n < 2 ^ low n := Nat.lt_of_lt_of_le hn (Nat.pow_le_pow_right (by decide) g)
    rw [Nat.testBit_lt_two_pow e] at this; cases this
/-- without the least -/
theorem rest_bit {n : Nat} (h : n ≠ 0) (j : Nat) : (n &&& (n - 1)).testBit j = (n.testBit j && decide (j ≠ low n)) := by
  obtain ⟨m, e⟩ := low_spec h
  have e1 := and_pred (low n) m
  rw [← e] at e1
  have e2 : n.testBit j = (2 ^ low n * (2 * m + 1)).testBit j := by rw [← e]
  rw [e1, e2, testBit_odd, Nat.testBit_two_pow_mul]
  rcases Nat.lt_trichotomy j (low n) with h | h | h
  · simp [show ¬ j = low n by omega, show ¬ low n < j by omega, show ¬ low n + 1 ≤ j by omega]
  · simp [h, show ¬ low n + 1 ≤ low n by omega]
  · simp [h, show ¬ j = low n by omega, show low n + 1 ≤ j by omega, show j - (low n + 1) = j - low n - 1 by omega]
theorem rest_lt {n : Nat} (h : n ≠ 0) : n &&& (n - 1) < n := Nat.lt_of_le_of_lt Nat.and_le_right (by omega)
theorem bit_lt {n k j : Nat} (hn : n < 2 ^ k) (h : n.testBit j = true) : j < k := by
  rcases Nat.lt_or_ge j k with g | g
  · exact g
  · rw [Nat.testBit_lt_two_pow (Nat.lt_of_lt_of_le hn (Nat.pow_le_pow_right (by decide) g))] at h; cases h
/-- two sets of numbers below 2^k with the same members -/
theorem bits_ext {a b : Nat} (h : ∀ j, a.testBit j = b.testBit j) : a = b := Nat.eq_of_testBit_eq h
/-! ## the numbers in a set, rising -/
/-- the numbers below 16 in a set -/
def els (n : Nat) : List Nat := (List.range 16).filter (fun v => n.testBit v)
theorem mem_els {n v : Nat} (hn : n < 2 ^ 16) : v ∈ els n ↔ n.testBit v = true := by
  unfold els; rw [List.mem_filter, List.mem_range]
  exact ⟨fun h => h.2, fun h => ⟨bit_lt hn h, h⟩⟩
theorem sorted_ext : ∀ {l l' : List Nat}, l.Pairwise (· < ·) → l'.Pairwise (· < ·) → (∀ x, x ∈ l ↔ x ∈ l') → l = l'
  | [], [], _, _, _ => rfl
  | [], y :: l', _, _, h => nomatch (h y).2 (List.mem_cons_self ..)
  | x :: l, [], _, _, h => nomatch (h x).1 (List.mem_cons_self ..)
  | x :: l, y :: l', h1, h2, h => by
    rw [List.pairwise_cons] at h1 h2
    have hxy : x = y := by
      rcases List.mem_cons.1 ((h x).1 (List.mem_cons_self ..)) with e | e
      · exact e
      · rcases List.mem_cons.1 ((h y).2 (List.mem_cons_self ..)) with e' | e'
        · exact e'.symm
        · have := h1.1 _ e'; have := h2.1 _ e; omega
    subst hxy
    congr 1
    refine sorted_ext h1.2 h2.2 fun z => ⟨fun hz => ?_, fun hz => ?_⟩
    · rcases List.mem_cons.1 ((h z).1 (List.mem_cons_of_mem _ hz)) with e | e
      · have := h1.1 _ hz; omega
      · exact e
    · rcases List.mem_cons.1 ((h z).2 (List.mem_cons_of_mem _ hz)) with e | e
      · have := h2.1 _ hz; omega
      · exact e
theorem els_sorted (n : Nat) : (els n).Pairwise (· < ·) := List.Pairwise.sublist List.filter_sublist List.pairwise_lt_range
theorem els_nodup (n : Nat) : (els n).Nodup := (els_sorted n).imp fun h => by omega
theorem els_zero : els 0 = [] := by unfold els; simp
theorem els_cons {n : Nat} (h : n ≠ 0) (hn : n < 2 ^ 16) : els n = low n :: els (n &&& (n - 1)) := by
  have hr : n &&& (n - 1) < 2 ^ 16 := Nat.lt_trans (rest_lt h) hn
  refine sorted_ext (els_sorted n) ?_ fun x => ?_
  · rw [List.pairwise_cons]
    refine ⟨fun y hy => ?_, els_sorted _⟩
    rw [mem_els hr, rest_bit h, Bool.and_eq_true, decide_eq_true_eq] at hy
    rcases Nat.lt_or_ge (low n) y with g | g
    · exact g
    · have := low_least h (show y < low n by omega); rw [this] at hy; cases hy.1
  · rw [List.mem_cons, mem_els hn, mem_els hr, rest_bit h, Bool.and_eq_true, decide_eq_true_eq]
    by_cases e : x = low n
    · subst e; simp [low_bit h]
    · simp [e]
theorem els_len_le (n : Nat) : (els n).length ≤ 16 := by
  have : (els n).length ≤ (List.range 16).length := List.length_filter_le ..
  simpa using this
theorem els_lt {n v : Nat} (h : v ∈ els n) : v < 16 := by unfold els at h; rw [List.mem_filter, List.mem_range] at h; exact h.1
theorem els_bit {n v : Nat} (h : v ∈ els n) : n.testBit v = true := by unfold els at h; rw [List.mem_filter] at h; exact h.2
/-- how many numbers in a set -/
def card (n : Nat) : Nat := (els n).length
theorem card_cons {n : Nat} (h : n ≠ 0) (hn : n < 2 ^ 16) : card n = card (n &&& (n - 1)) + 1 := by unfold card; rw [els_cons h hn]; rfl
theorem card_zero : card 0 = 0 := by unfold card; rw [els_zero]; rfl
/-- the numbers of a list, as a set -/
def mk (s : List Int) : Nat := s.foldl (fun (b : Nat) (v : Int) => b ||| 2 ^ v.toNat) 0
theorem mk_fold (s : List Int) : ∀ b j, (s.foldl (fun (b : Nat) (v : Int) => b ||| 2 ^ v.toNat) b).testBit j = (b.testBit j || decide (∃ v ∈ s, v.toNat = j)) := by
  induction s with
  | nil => intro b j; simp
  | cons v s ih =>
    intro b j
    rw [List.foldl_cons, ih, Nat.testBit_or, Nat.testBit_two_pow, Bool.or_assoc]
    congr 1
    by_cases e : v.toNat = j <;> simp [e]
theorem mk_bit (s : List Int) (j : Nat) : (mk s).testBit j = decide (∃ v ∈ s, v.toNat = j) := by unfold mk; rw [mk_fold]; simp
theorem mk_lt {s : List Int} {k : Nat} (h : ∀ v ∈ s, 0 ≤ v ∧ v < k) : mk s < 2 ^ k := by
  apply Nat.lt_pow_two_of_testBit
  intro j hj
  rw [mk_bit, decide_eq_false]
  rintro ⟨v, hv, e⟩
  have := h v hv; omega
theorem mk_mem {s : List Int} (h : ∀ v ∈ s, 0 ≤ v) (j : Nat) : (mk s).testBit j = decide ((j : Int) ∈ s) := by
  rw [mk_bit]
  have : (∃ v ∈ s, v.toNat = j) ↔ (j : Int) ∈ s := ⟨fun ⟨v, hv, e⟩ => by have := h v hv; rw [show (j : Int) = v by omega]; exact hv, fun hm => ⟨j, hm, by omega⟩⟩
  simp [this]
theorem mk_snoc (s : List Int) (v : Int) : mk (s ++ [v]) = mk s ||| 2 ^ v.toNat := by unfold mk; rw [List.foldl_append]; rfl
theorem or_lt {a b k : Nat} (ha : a < 2 ^ k) (hb : b < 2 ^ k) : a ||| b < 2 ^ k := Nat.or_lt_two_pow ha hb
theorem and_lt {a b k : Nat} (ha : a < 2 ^ k) : a &&& b < 2 ^ k := Nat.lt_of_le_of_lt Nat.and_le_left ha
/-- a without b -/
def sdiff (a b : Nat) : Nat := a ^^^ (a &&& b)
theorem sdiff_bit (a b j : Nat) : (sdiff a b).testBit j = (a.testBit j && !b.testBit j) := by
  unfold sdiff; rw [Nat.testBit_xor, Nat.testBit_and]; cases a.testBit j <;> cases b.testBit j <;> rfl
theorem sdiff_le (a b : Nat) : sdiff a b ≤ a := by
  apply Nat.le_of_testBit
  intro i hi
  rw [sdiff_bit] at hi; simp at hi; exact hi.1
theorem sdiff_lt {a b k : Nat} (ha : a < 2 ^ k) : sdiff a b < 2 ^ k := Nat.lt_of_le_of_lt (sdiff_le a b) ha
/-! ## the same in 64 bits with a sign, and in 32 bits -/
theorem i64and_nat {a b : Nat} (ha : a < 2 ^ 63) (hb : b < 2 ^ 63) : i64and a b = ((a &&& b : Nat) : Int) := by
  have h1 : a &&& b < 2 ^ 63 := and_lt ha
  unfold i64and
  rw [BitVec.toInt_eq_toNat_of_lt]
  · rw [BitVec.toNat_and, BitVec.ofInt_natCast, BitVec.ofInt_natCast, BitVec.toNat_ofNat, BitVec.toNat_ofNat, Nat.mod_eq_of_lt (by omega), Nat.mod_eq_of_lt (by omega)]
  · rw [BitVec.toNat_and, BitVec.ofInt_natCast, BitVec.ofInt_natCast, BitVec.toNat_ofNat, BitVec.toNat_ofNat, Nat.mod_eq_of_lt (by omega), Nat.mod_eq_of_lt (by omega)]; omega
theorem i64or_nat {a b : Nat} (ha : a < 2 ^ 63) (hb : b < 2 ^ 63) : i64or a b = ((a ||| b : Nat) : Int) := by
  have h1 : a ||| b < 2 ^ 63 := or_lt ha hb
  unfold i64or
  rw [BitVec.toInt_eq_toNat_of_lt]
  · rw [BitVec.toNat_or, BitVec.ofInt_natCast, BitVec.ofInt_natCast, BitVec.toNat_ofNat, BitVec.toNat_ofNat, Nat.mod_eq_of_lt (by omega), Nat.mod_eq_of_lt (by omega)]
  · rw [BitVec.toNat_or, BitVec.ofInt_natCast, BitVec.ofInt_natCast, BitVec.toNat_ofNat, BitVec.toNat_ofNat, Nat.mod_eq_of_lt (by omega), Nat.mod_eq_of_lt (by omega)]; omega
theorem testBit_not32 (w : Nat) (b : BitVec w) (j : Nat) : (~~~b).toNat.testBit j = (decide (j < w) && !b.toNat.testBit j) := by
  rw [← BitVec.getLsbD, BitVec.getLsbD_not]; rfl
theorem i64andn_nat {a b : Nat} (ha : a < 2 ^ 63) (hb : b < 2 ^ 63) : i64andn a b = ((sdiff a b : Nat) : Int) := by
  have h1 : sdiff a b < 2 ^ 63 := sdiff_lt ha
  have key : (BitVec.ofInt 64 (a : Int) &&& ~~~ BitVec.ofInt 64 (b : Int)).toNat = sdiff a b := by
    apply bits_ext
    intro j
    rw [BitVec.toNat_and, Nat.testBit_and, testBit_not32, BitVec.ofInt_natCast, BitVec.ofInt_natCast, BitVec.toNat_ofNat, BitVec.toNat_ofNat, Nat.mod_eq_of_lt (by omega), Nat.mod_eq_of_lt (by omega), sdiff_bit]
    by_cases hj : j < 64
    · simp [hj]
    · rw [Nat.testBit_lt_two_pow (Nat.lt_of_lt_of_le ha (Nat.pow_le_pow_right (by decide) (by omega)))]; rfl
  unfold i64andn
  rw [BitVec.toInt_eq_toNat_of_lt (by rw [key]; omega), key]
theorem shr_nat (a k : Nat) : (a : Int) / 2 ^ k = ((a >>> k : Nat) : Int) := by
  rw [Nat.shiftRight_eq_div_pow, Int.natCast_ediv, Int.natCast_pow]; rfl
theorem and_one (a : Nat) : i64and ((a >>> 0 : Nat) : Int) 1 = i64and (a : Int) 1 := rfl
/-- is k in the set? as the reference asks it -/
theorem bit_asked {a k : Nat} (ha : a < 2 ^ 63) : i64and ((a : Int) / 2 ^ k) 1 = if a.testBit k then 1 else 0 := by
  have h1 : a >>> k < 2 ^ 63 := by rw [Nat.shiftRight_eq_div_pow]; exact Nat.lt_of_le_of_lt (Nat.div_le_self ..) ha
  rw [shr_nat, show (1 : Int) = ((1 : Nat) : Int) from rfl, i64and_nat h1 (by decide), Nat.and_one_is_mod, Nat.shiftRight_eq_div_pow]
  have := Nat.testBit_eq_decide_div_mod_eq (x := a) (i := k)
  rw [this]
  have h2 : a / 2 ^ k % 2 < 2 := Nat.mod_lt _ (by decide)
  by_cases h : a / 2 ^ k % 2 = 1
  · simp [h]
  · rw [show a / 2 ^ k % 2 = 0 by omega]; rfl
theorem inI_nat {a : Nat} (h : a < 2 ^ 62) : InI (a : Int) := by unfold InI; omega
theorem two_pow_nat (k : Nat) : (1 : Int) * 2 ^ k = ((2 ^ k : Nat) : Int) := by rw [Int.one_mul, Int.natCast_pow]; rfl
/-! 32 bits -/
theorem bv_and (a b : Nat) : BitVec.ofNat 32 a &&& BitVec.ofNat 32 b = BitVec.ofNat 32 (a &&& b) := by
  apply BitVec.eq_of_toNat_eq; simp [BitVec.toNat_and, Nat.and_mod_two_pow]
theorem bv_or (a b : Nat) : BitVec.ofNat 32 a ||| BitVec.ofNat 32 b = BitVec.ofNat 32 (a ||| b) := by
  apply BitVec.eq_of_toNat_eq; simp [BitVec.toNat_or, Nat.or_mod_two_pow]
theorem bv_shl {k : Nat} (h : k < 32) : 1#32 <<< k = BitVec.ofNat 32 (2 ^ k) := by
  apply BitVec.eq_of_toNat_eq; simp [BitVec.toNat_shiftLeft, Nat.shiftLeft_eq]
theorem bv_inj {a b : Nat} (ha : a < 2 ^ 32) (hb : b < 2 ^ 32) : BitVec.ofNat 32 a = BitVec.ofNat 32 b ↔ a = b := by
  refine ⟨fun h => ?_, fun h => by rw [h]⟩
  have := congrArg BitVec.toNat h
  rwa [BitVec.toNat_ofNat, BitVec.toNat_ofNat, Nat.mod_eq_of_lt ha, Nat.mod_eq_of_lt hb] at this
theorem bv_toNat {a : Nat} (ha : a < 2 ^ 32) : (BitVec.ofNat 32 a).toNat = a := by rw [BitVec.toNat_ofNat, Nat.mod_eq_of_lt ha]
theorem bv_andn {a b : Nat} (ha : a < 2 ^ 32) : BitVec.ofNat 32 a &&& ~~~ BitVec.ofNat 32 b = BitVec.ofNat 32 (sdiff a b) := by
  have h1 : sdiff a b < 2 ^ 32 := sdiff_lt ha
  apply BitVec.eq_of_toNat_eq
  apply bits_ext
  intro j
  rw [BitVec.toNat_and, Nat.testBit_and, testBit_not32, bv_toNat ha, bv_toNat h1, sdiff_bit, BitVec.toNat_ofNat, Nat.testBit_mod_two_pow]
  by_cases hj : j < 32
  · simp [hj]
  · rw [Nat.testBit_lt_two_pow (Nat.lt_of_lt_of_le ha (Nat.pow_le_pow_right (by decide) (by omega)))]; rfl
theorem bv_sub_one {a : Nat} (h : 0 < a) (ha : a < 2 ^ 32) : BitVec.ofNat 32 a - 1#32 = BitVec.ofNat 32 (a - 1) := by
  apply BitVec.eq_of_toNat_eq
  rw [BitVec.toNat_sub, bv_toNat ha]
  show (2 ^ 32 - 1 + a) % 2 ^ 32 = _
  have e : 2 ^ 32 - 1 + a = (a - 1) + 2 ^ 32 := by omega
  rw [e, Nat.add_mod_right, Nat.mod_eq_of_lt (by omega), bv_toNat (by omega)]
theorem bv_rest {a : Nat} (h : a ≠ 0) (ha : a < 2 ^ 32) : BitVec.ofNat 32 a &&& (BitVec.ofNat 32 a - 1#32) = BitVec.ofNat 32 (a &&& (a - 1)) := by
  rw [bv_sub_one (by omega) ha, bv_and]
theorem bv_lowbit {a : Nat} (h : a ≠ 0) (ha : a < 2 ^ 32) : BitVec.ofNat 32 a &&& -BitVec.ofNat 32 a = BitVec.ofNat 32 (2 ^ low a) := by
  have hl := low_lt h ha
  have hp : 2 ^ low a < 2 ^ 32 := Nat.pow_lt_pow_right (by decide) hl
  obtain ⟨m, e⟩ := low_spec h
  apply BitVec.eq_of_toNat_eq
  apply bits_ext
  intro j
  rw [BitVec.toNat_and, BitVec.toNat_neg, bv_toNat ha, bv_toNat hp, Nat.testBit_and, Nat.testBit_two_pow, Nat.mod_eq_of_lt (by omega)]
  have e1 : 2 ^ 32 - a = 2 ^ 32 - ((a - 1) + 1) := by omega
  rw [e1, Nat.testBit_two_pow_sub_succ (by omega)]
  have e2 : a.testBit j = (2 ^ low a * (2 * m + 1)).testBit j := by rw [← e]
  have e3 : (a - 1).testBit j = (2 ^ low a * (2 * m + 1) - 1).testBit j := by rw [← e]
  rw [e2, e3, testBit_odd, testBit_pred]
  rcases Nat.lt_trichotomy j (low a) with h | h | h
  · simp [h, show ¬ j = low a by omega, show ¬ low a = j by omega, show ¬ low a < j by omega]
  · simp [h, show low a < 32 by omega]
  · simp [show ¬ j = low a by omega, show ¬ low a = j by omega, show ¬ j < low a by omega, h]
    exact fun h _ => h
theorem deBruijn_at : ∀ k, k < 32 → deBruijn32[(((BitVec.ofNat 32 (2 ^ k)) * 125613361#32) >>> (27 : Nat)).toNat]? = some (BitVec.ofNat 8 k) := by decide
end Go.Proofs.Ytjcnkijmbjhcnaa

/- Sets of small numbers as bits: natural numbers, what is in them, their least, how many. No program in sight. -/
import Derived.Test.YtjcnkijmbjhcnaaLib
namespace Go.Proofs.Ytjcnkijmbjhcnaa
/-! ## natural numbers by their bits -/
theorem bit_lt {n k j : Nat} (hn : n < 2 ^ k) (h : n.testBit j = true) : j < k := by
  rcases Nat.lt_or_ge j k with g | g
  · exact g
  · rw [Nat.testBit_lt_two_pow (Nat.lt_of_lt_of_le hn (Nat.pow_le_pow_right (by decide) g))] at h; cases h
/-! ## the numbers in a set, rising -/
def mk (s : List Int) : Nat := s.foldl (fun (b : Nat) (v : Int) => b ||| 2 ^ v.toNat) 0
theorem mk_fold (s : List Int) : ∀ b j, (s.foldl (fun (b : Nat) (v : Int) => b ||| 2 ^ v.toNat) b).testBit j = (b.testBit j || decide (∃ v ∈ s, v.toNat = j)) := by
  induction s with
  | nil => intro b j; simp
  | cons v s ih =>
    intro b j
    rw [List.foldl_cons, ih, Nat.testBit_or, Nat.testBit_two_pow, Bool.or_assoc]
    congr 1
    by_cases e : v.toNat = j <;> simp [e]
theorem mk_bit (s : List Int) (j : Nat) : (mk s).testBit j = decide (∃ v ∈ s, v.toNat = j) := by unfold mk; rw [mk_fold]; simp
theorem mk_lt {s : List Int} {k : Nat} (h : ∀ v ∈ s, 0 ≤ v ∧ v < k) : mk s < 2 ^ k := by
  apply Nat.lt_pow_two_of_testBit
  intro j hj
  rw [mk_bit, decide_eq_false]
  rintro ⟨v, hv, e⟩
  have := h v hv; omega
theorem or_lt {a b k : Nat} (ha : a < 2 ^ k) (hb : b < 2 ^ k) : a ||| b < 2 ^ k := Nat.or_lt_two_pow ha hb
theorem and_lt {a b k : Nat} (ha : a < 2 ^ k) : a &&& b < 2 ^ k := Nat.lt_of_le_of_lt Nat.and_le_left ha
/-! ## the same in 64 bits with a sign, and in 32 bits -/
theorem i64and_nat {a b : Nat} (ha : a < 2 ^ 63) (hb : b < 2 ^ 63) : i64and a b = ((a &&& b : Nat) : Int) := by
  have h1 : a &&& b < 2 ^ 63 := and_lt ha
  unfold i64and
  rw [BitVec.toInt_eq_toNat_of_lt]
  · rw [BitVec.toNat_and, BitVec.ofInt_natCast, BitVec.ofInt_natCast, BitVec.toNat_ofNat, BitVec.toNat_ofNat, Nat.mod_eq_of_lt (by omega), Nat.mod_eq_of_lt (by omega)]
  · rw [BitVec.toNat_and, BitVec.ofInt_natCast, BitVec.ofInt_natCast, BitVec.toNat_ofNat, BitVec.toNat_ofNat, Nat.mod_eq_of_lt (by omega), Nat.mod_eq_of_lt (by omega)]; omega
theorem i64or_nat {a b : Nat} (ha : a < 2 ^ 63) (hb : b < 2 ^ 63) : i64or a b = ((a ||| b : Nat) : Int) := by
  have h1 : a ||| b < 2 ^ 63 := or_lt ha hb
  unfold i64or
  rw [BitVec.toInt_eq_toNat_of_lt]
  · rw [BitVec.toNat_or, BitVec.ofInt_natCast, BitVec.ofInt_natCast, BitVec.toNat_ofNat, BitVec.toNat_ofNat, Nat.mod_eq_of_lt (by omega), Nat.mod_eq_of_lt (by omega)]
  · rw [BitVec.toNat_or, BitVec.ofInt_natCast, BitVec.ofInt_natCast, BitVec.toNat_ofNat, BitVec.toNat_ofNat, Nat.mod_eq_of_lt (by omega), Nat.mod_eq_of_lt (by omega)]; omega
theorem testBit_not32 (w : Nat) (b : BitVec w) (j : Nat) : (~~~b).toNat.testBit j = (decide (j < w) && !b.toNat.testBit j) := by
  rw [← BitVec.getLsbD, BitVec.getLsbD_not]; rfl
theorem shr_nat (a k : Nat) : (a : Int) / 2 ^ k = ((a >>> k : Nat) : Int) := by
  rw [Nat.shiftRight_eq_div_pow, Int.natCast_ediv, Int.natCast_pow]; rfl
theorem bit_asked {a k : Nat} (ha : a < 2 ^ 63) : i64and ((a : Int) / 2 ^ k) 1 = if a.testBit k then 1 else 0 := by
  have h1 : a >>> k < 2 ^ 63 := by rw [Nat.shiftRight_eq_div_pow]; exact Nat.lt_of_le_of_lt (Nat.div_le_self ..) ha
  rw [shr_nat, show (1 : Int) = ((1 : Nat) : Int) from rfl, i64and_nat h1 (by decide), Nat.and_one_is_mod, Nat.shiftRight_eq_div_pow]
  have := Nat.testBit_eq_decide_div_mod_eq (x := a) (i := k)
  rw [this]
  have h2 : a / 2 ^ k % 2 < 2 := Nat.mod_lt _ (by decide)
  by_cases h : a / 2 ^ k % 2 = 1
  · simp [h]
  · rw [show a / 2 ^ k % 2 = 0 by omega]; rfl
theorem inI_nat {a : Nat} (h : a < 2 ^ 62) : InI (a : Int) := by unfold InI; omega
theorem two_pow_nat (k : Nat) : (1 : Int) * 2 ^ k = ((2 ^ k : Nat) : Int) := by rw [Int.one_mul, Int.natCast_pow]; rfl
/-! 32 bits -/
theorem bv_or (a b : Nat) : BitVec.ofNat 32 a ||| BitVec.ofNat 32 b = BitVec.ofNat 32 (a ||| b) := by
  apply BitVec.eq_of_toNat_eq; simp [BitVec.toNat_or, Nat.or_mod_two_pow]
theorem bv_shl {k : Nat} (h : k < 32) : 1#32 <<< k = BitVec.ofNat 32 (2 ^ k) := by
  apply BitVec.eq_of_toNat_eq; simp [BitVec.toNat_shiftLeft, Nat.shiftLeft_eq]
theorem bv_toNat {a : Nat} (ha : a < 2 ^ 32) : (BitVec.ofNat 32 a).toNat = a := by rw [BitVec.toNat_ofNat, Nat.mod_eq_of_lt ha]
theorem bv_sub_one {a : Nat} (h : 0 < a) (ha : a < 2 ^ 32) : BitVec.ofNat 32 a - 1#32 = BitVec.ofNat 32 (a - 1) := by
  apply BitVec.eq_of_toNat_eq
  rw [BitVec.toNat_sub, bv_toNat ha]
  show (2 ^ 32 - 1 + a) % 2 ^ 32 = _
  have e : 2 ^ 32 - 1 + a = (a - 1) + 2 ^ 32 := by omega
  rw [e, Nat.add_mod_right, Nat.mod_eq_of_lt (by omega), bv_toNat (by omega)]
end Go.Proofs.Ytjcnkijmbjhcnaa

/- Plain texts: Lib, Bitset, Fold, Loops, LawSz, LawCopy, LawIn, Graph, BitF, SetF, Count, Tab, MatchCount, Parts, DiceF, Edges, Colour, Critical, GDel, Path, Order, Match, Ring, Lines, RingBest, LawGraph, LawMarks, TFnExactOuterRing. -/
import Derived.Test.YtbefgidkaepmmaaGreatDoorPure
import Derived.Test.YtbefgidkaepmmaaGreatDoorF
/- Plain lemmas on the combinators, for the laws in plain Lean. -/
namespace Go.Proofs.YtbefgidkaepmmaaGreatDoor
section
variable {α β A S O : Type}
theorem inI {x : Int} (h1 : -9223372036854775808 ≤ x) (h2 : x ≤ 9223372036854775807) : InI x := ⟨h1, h2⟩
theorem ck_of {x : Int} {k : Int → Option β} (h : InI x) : ck x k = k x := by unfold ck; rw [if_pos h]
theorem idx_of {xs : List α} {i : Int} {k : α → Option β} {x : α} (h0 : 0 ≤ i) (h : xs[i.toNat]? = some x) : idx xs i k = k x := by
  unfold idx; rw [if_pos h0, h]
theorem idx_nat {xs : List α} {i : Nat} {k : α → Option β} (h : i < xs.length) : idx xs (i : Int) k = k xs[i] :=
  idx_of (Int.natCast_nonneg _) (by simp [h])
theorem app_of {xs ys : List α} {k : List α → Option β} (h : xs.length + ys.length ≤ lim) : app xs ys k = k (xs ++ ys) := by unfold app; rw [if_pos h]
theorem mkS_of {n : Int} {z : α} {k : List α → Option β} (h0 : 0 ≤ n) (h : n ≤ lim) : mkS n z k = k (List.replicate n.toNat z) := by unfold mkS; rw [if_pos ⟨h0, h⟩]
theorem slc_of {xs : List α} {i j : Int} {k : List α → Option β} (h : 0 ≤ i ∧ i ≤ j ∧ j ≤ xs.length) : slc xs i j k = k ((xs.drop i.toNat).take (j.toNat - i.toNat)) := by unfold slc; rw [if_pos h]
theorem grd_of {p : Prop} [Decidable p] {k : Option β} (h : p) : grd p k = k := by unfold grd; rw [if_pos h]
theorem cal_of {e : Option α} {k : α → Option β} {x : α} (h : e = some x) : cal e k = k x := by rw [h]; rfl
theorem bnd_l {e : Option (α ⊕ A)} {k : α → Option A} {j : α} (h : e = some (.inl j)) : bnd e k = k j := by rw [h]; rfl
theorem bnd_r {e : Option (α ⊕ A)} {k : α → Option A} {a : A} (h : e = some (.inr a)) : bnd e k = some a := by rw [h]; rfl
@[simp] theorem cal_some_eq (x : α) (k : α → Option β) : cal (some x) k = k x := rfl
@[simp] theorem bnd_inl_eq (j : α) (k : α → Option A) : bnd (some (.inl j)) k = k j := rfl
@[simp] theorem bnd_inr_eq (a : A) (k : α → Option A) : bnd (some (.inr a)) k = some a := rfl
theorem lp_up {step : S → Option (S ⊕ O)} (f : Nat → S) (m : Nat) {o : O} (h : ∀ k, k < m → step (f k) = some (.inl (f (k + 1)))) (he : step (f m) = some (.inr o)) : lp step (f 0) = some o := by
  have key : ∀ j k, k + j = m → lp step (f k) = some o := by
    intro j
    induction j with
    | zero => intro k hk; rw [lp_unfold, show k = m by omega, he]
    | succ j ih => intro k hk; rw [lp_unfold, h k (by omega)]; exact ih (k + 1) (by omega)
  exact key m 0 (by omega)
theorem lp_upto {step : S → Option (S ⊕ O)} (f : Nat → S) (m : Nat) {s : S} {o : O} (hs : s = f 0) (h : ∀ k, k < m → step (f k) = some (.inl (f (k + 1)))) (he : step (f m) = some (.inr o)) : lp step s = some o := by
  rw [hs]; exact lp_up f m h he
theorem inl_eq {s s' : S} (h : s = s') : (some (.inl s) : Option (S ⊕ O)) = some (.inl s') := by rw [h]
theorem pair_eq {a a' : α} {b b' : β} (h : a = a') (h' : b = b') : (a, b) = (a', b') := by rw [h, h']
theorem lp_all {step : S → Option (S ⊕ O)} (f : Nat → S) (n : Nat) (p : Nat → Prop) {oT oF : O} (h1 : ∀ k, k < n → p k → step (f k) = some (.inl (f (k + 1)))) (h2 : ∀ k, k < n → ¬ p k → step (f k) = some (.inr oF))
    (h3 : step (f n) = some (.inr oT)) : ((∀ k, k < n → p k) → lp step (f 0) = some oT) ∧ ((∃ k, k < n ∧ ¬ p k) → lp step (f 0) = some oF) := by
  refine ⟨fun h => lp_up f n (fun k hk => h1 k hk (h k hk)) h3, fun h => ?_⟩
  obtain ⟨m, ⟨hm, hp⟩, hl⟩ := least_of h
  refine lp_up f m (fun k hk => h1 k (by omega) ?_) (h2 m hm hp)
  exact Classical.byContradiction fun hn => by have := hl k ⟨by omega, hn⟩; omega
theorem lp_allB {step : S → Option (S ⊕ O)} (f : Nat → S) (n : Nat) (p : Nat → Prop) (b : Bool) {g : Bool → O} (hb : b = true ↔ ∀ k, k < n → p k) (h1 : ∀ k, k < n → p k → step (f k) = some (.inl (f (k + 1))))
    (h2 : ∀ k, k < n → ¬ p k → step (f k) = some (.inr (g false))) (h3 : step (f n) = some (.inr (g true))) : lp step (f 0) = some (g b) := by
  obtain ⟨ht, hf⟩ := lp_all f n p h1 h2 h3
  cases b with
  | true => exact ht (hb.1 rfl)
  | false =>
    refine hf (Classical.byContradiction fun hn => ?_)
    have : false = true := hb.2 fun k hk => Classical.byContradiction fun hp => hn ⟨k, hk, hp⟩
    cases this
theorem take_succ_of {xs : List α} {k : Nat} (h : k < xs.length) : xs.take (k + 1) = xs.take k ++ [xs[k]] := by
  rw [List.take_add_one, List.getElem?_eq_getElem h]; rfl
theorem ne_of_lt_idxOf {s : List Int} {c : Int} {k : Nat} (hk : k < s.idxOf c) (h : k < s.length) : s[k] ≠ c := by
  have := List.not_of_lt_findIdx (p := (· == c)) (xs := s) (i := k) hk
  simpa using this
end
end Go.Proofs.YtbefgidkaepmmaaGreatDoor

/- Sets of small numbers as bits: natural numbers, what is in them, their least, how many. No program in sight. -/
namespace Go.Proofs.YtbefgidkaepmmaaGreatDoor
/-! ## natural numbers by their bits -/
theorem odd_part : ∀ n : Nat, 0 < n → ∃ k m, n = 2 ^ k * (2 * m + 1) := by
  intro n
  induction n using Nat.strongRecOn with
  | _ n ih =>
    intro h
    by_cases e : n % 2 = 1
    · exact ⟨0, n / 2, by omega⟩
    · obtain ⟨k, m, hk⟩ := ih (n / 2) (by omega) (by omega)
      refine ⟨k + 1, m, ?_⟩
      rw [Nat.pow_succ, Nat.mul_comm (2 ^ k) 2, Nat.mul_assoc, ← hk]; omega
theorem testBit_odd (k m j : Nat) : (2 ^ k * (2 * m + 1)).testBit j = (decide (j = k) || (decide (k < j) && m.testBit (j - k - 1))) := by
  rw [Nat.testBit_two_pow_mul]
  by_cases h : k ≤ j
  · rw [decide_eq_true h, Bool.true_and]
    obtain ⟨i, rfl⟩ := Nat.exists_eq_add_of_le h
    rw [Nat.add_sub_cancel_left]
    cases i with
    | zero => simp
    | succ i =>
      rw [Nat.testBit_succ, show (2 * m + 1) / 2 = m by omega]
      simp
  · rw [decide_eq_false h, decide_eq_false (by omega : ¬ j = k), decide_eq_false (by omega : ¬ k < j)]; rfl
theorem odd_pred (k m : Nat) : 2 ^ k * (2 * m + 1) - 1 = 2 ^ (k + 1) * m + (2 ^ k - 1) := by
  have hp : 0 < 2 ^ k := Nat.two_pow_pos k
  rw [Nat.mul_add, Nat.mul_one, Nat.pow_succ, Nat.mul_assoc]; omega
theorem testBit_pred (k m j : Nat) : (2 ^ k * (2 * m + 1) - 1).testBit j = (decide (j < k) || (decide (k < j) && m.testBit (j - k - 1))) := by
  have hp : 0 < 2 ^ k := Nat.two_pow_pos k
  rw [odd_pred, Nat.testBit_two_pow_mul_add _ (by rw [Nat.pow_succ]; omega)]
  by_cases h : j < k + 1
  · rw [if_pos h, Nat.testBit_two_pow_sub_one, decide_eq_false (by omega : ¬ k < j), Bool.false_and, Bool.or_false]
  · rw [if_neg h, decide_eq_false (by omega : ¬ j < k), decide_eq_true (by omega : k < j), Bool.false_or, Bool.true_and, show j - (k + 1) = j - k - 1 by omega]
theorem and_pred (k m : Nat) : 2 ^ k * (2 * m + 1) &&& (2 ^ k * (2 * m + 1) - 1) = 2 ^ (k + 1) * m := by
  apply Nat.eq_of_testBit_eq
  intro j
  rw [Nat.testBit_and, testBit_odd, testBit_pred, Nat.testBit_two_pow_mul]
  rcases Nat.lt_trichotomy j k with h | h | h
  · simp [h, show ¬ j = k by omega, show ¬ k < j by omega, show ¬ k + 1 ≤ j by omega]
  · subst h; simp [show ¬ j + 1 ≤ j by omega]
  · simp [h, show ¬ j = k by omega, show ¬ j < k by omega, show k + 1 ≤ j by omega, show j - (k + 1) = j - k - 1 by omega]
def low (n : Nat) : Nat := if h : n = 0 then 0 else if n % 2 = 1 then 0 else low (n / 2) + 1
theorem low_odd : ∀ k m : Nat, low (2 ^ k * (2 * m + 1)) = k
  | 0, m => by unfold low; rw [Nat.pow_zero, Nat.one_mul, dif_neg (by omega), if_pos (by omega)]
  | k + 1, m => by
    have e : 2 ^ (k + 1) * (2 * m + 1) = 2 * (2 ^ k * (2 * m + 1)) := by rw [Nat.pow_succ, Nat.mul_comm (2 ^ k) 2, Nat.mul_assoc]
    have hp : 0 < 2 ^ k * (2 * m + 1) := Nat.mul_pos (Nat.two_pow_pos k) (by omega)
    unfold low
    rw [dif_neg (by omega), if_neg (by omega), show 2 ^ (k + 1) * (2 * m + 1) / 2 = 2 ^ k * (2 * m + 1) by omega, low_odd k m]
theorem low_spec {n : Nat} (h : n ≠ 0) : ∃ m, n = 2 ^ low n * (2 * m + 1) := by
  obtain ⟨k, m, e⟩ := odd_part n (by omega)
  exact ⟨m, by conv => lhs; rw [e]
               rw [e, low_odd]⟩
theorem low_bit {n : Nat} (h : n ≠ 0) : n.testBit (low n) = true := by
  obtain ⟨m, e⟩ := low_spec h
  have e2 : n.testBit (low n) = (2 ^ low n * (2 * m + 1)).testBit (low n) := by rw [← e]
  rw [e2, testBit_odd]; simp
theorem low_least {n j : Nat} (h : n ≠ 0) (hj : j < low n) : n.testBit j = false := by
  obtain ⟨m, e⟩ := low_spec h
  have e2 : n.testBit j = (2 ^ low n * (2 * m + 1)).testBit j := by rw [← e]
  rw [e2, testBit_odd, decide_eq_false (by omega), decide_eq_false (by omega)]; rfl
theorem low_lt {n k : Nat} (h : n ≠ 0) (hn : n < 2 ^ k) : low n < k := by
  have := low_bit h
  rcases Nat.lt_or_ge (low n) k with g | g
  · exact g
  · have e : n < 2 ^ low n := Nat.lt_of_lt_of_le hn (Nat.pow_le_pow_right (by decide) g)
    rw [Nat.testBit_lt_two_pow e] at this; cases this
theorem rest_bit {n : Nat} (h : n ≠ 0) (j : Nat) : (n &&& (n - 1)).testBit j = (n.testBit j && decide (j ≠ low n)) := by
  obtain ⟨m, e⟩ := low_spec h
  have e1 := and_pred (low n) m
  rw [← e] at e1
  have e2 : n.testBit j = (2 ^ low n * (2 * m + 1)).testBit j := by rw [← e]
  rw [e1, e2, testBit_odd, Nat.testBit_two_pow_mul]
  rcases Nat.lt_trichotomy j (low n) with h | h | h
  · simp [show ¬ j = low n by omega, show ¬ low n < j by omega, show ¬ low n + 1 ≤ j by omega]
  · simp [h, show ¬ low n + 1 ≤ low n by omega]
  · simp [h, show ¬ j = low n by omega, show low n + 1 ≤ j by omega, show j - (low n + 1) = j - low n - 1 by omega]
theorem rest_lt {n : Nat} (h : n ≠ 0) : n &&& (n - 1) < n := Nat.lt_of_le_of_lt Nat.and_le_right (by omega)
theorem bit_lt {n k j : Nat} (hn : n < 2 ^ k) (h : n.testBit j = true) : j < k := by
  rcases Nat.lt_or_ge j k with g | g
  · exact g
  · rw [Nat.testBit_lt_two_pow (Nat.lt_of_lt_of_le hn (Nat.pow_le_pow_right (by decide) g))] at h; cases h
theorem bits_ext {a b : Nat} (h : ∀ j, a.testBit j = b.testBit j) : a = b := Nat.eq_of_testBit_eq h
/-! ## the numbers in a set, rising -/
def els (n : Nat) : List Nat := (List.range 16).filter (fun v => n.testBit v)
theorem mem_els {n v : Nat} (hn : n < 2 ^ 16) : v ∈ els n ↔ n.testBit v = true := by
  unfold els; rw [List.mem_filter, List.mem_range]
  exact ⟨fun h => h.2, fun h => ⟨bit_lt hn h, h⟩⟩
theorem sorted_ext : ∀ {l l' : List Nat}, l.Pairwise (· < ·) → l'.Pairwise (· < ·) → (∀ x, x ∈ l ↔ x ∈ l') → l = l'
  | [], [], _, _, _ => rfl
  | [], y :: l', _, _, h => nomatch (h y).2 (List.mem_cons_self ..)
  | x :: l, [], _, _, h => nomatch (h x).1 (List.mem_cons_self ..)
  | x :: l, y :: l', h1, h2, h => by
    rw [List.pairwise_cons] at h1 h2
    have hxy : x = y := by
      rcases List.mem_cons.1 ((h x).1 (List.mem_cons_self ..)) with e | e
      · exact e
      · rcases List.mem_cons.1 ((h y).2 (List.mem_cons_self ..)) with e' | e'
        · exact e'.symm
        · have := h1.1 _ e'; have := h2.1 _ e; omega
    subst hxy
    congr 1
    refine sorted_ext h1.2 h2.2 fun z => ⟨fun hz => ?_, fun hz => ?_⟩
    · rcases List.mem_cons.1 ((h z).1 (List.mem_cons_of_mem _ hz)) with e | e
      · have := h1.1 _ hz; omega
      · exact e
    · rcases List.mem_cons.1 ((h z).2 (List.mem_cons_of_mem _ hz)) with e | e
      · have := h2.1 _ hz; omega
      · exact e
theorem els_sorted (n : Nat) : (els n).Pairwise (· < ·) := List.Pairwise.sublist List.filter_sublist List.pairwise_lt_range
theorem els_zero : els 0 = [] := by unfold els; simp
theorem els_cons {n : Nat} (h : n ≠ 0) (hn : n < 2 ^ 16) : els n = low n :: els (n &&& (n - 1)) := by
  have hr : n &&& (n - 1) < 2 ^ 16 := Nat.lt_trans (rest_lt h) hn
  refine sorted_ext (els_sorted n) ?_ fun x => ?_
  · rw [List.pairwise_cons]
    refine ⟨fun y hy => ?_, els_sorted _⟩
    rw [mem_els hr, rest_bit h, Bool.and_eq_true, decide_eq_true_eq] at hy
    rcases Nat.lt_or_ge (low n) y with g | g
    · exact g
    · have := low_least h (show y < low n by omega); rw [this] at hy; cases hy.1
  · rw [List.mem_cons, mem_els hn, mem_els hr, rest_bit h, Bool.and_eq_true, decide_eq_true_eq]
    by_cases e : x = low n
    · subst e; simp [low_bit h]
    · simp [e]
theorem els_len_le (n : Nat) : (els n).length ≤ 16 := by
  have : (els n).length ≤ (List.range 16).length := List.length_filter_le ..
  simpa using this
def mk (s : List Int) : Nat := s.foldl (fun (b : Nat) (v : Int) => b ||| 2 ^ v.toNat) 0
theorem mk_fold (s : List Int) : ∀ b j, (s.foldl (fun (b : Nat) (v : Int) => b ||| 2 ^ v.toNat) b).testBit j = (b.testBit j || decide (∃ v ∈ s, v.toNat = j)) := by
  induction s with
  | nil => intro b j; simp
  | cons v s ih =>
    intro b j
    rw [List.foldl_cons, ih, Nat.testBit_or, Nat.testBit_two_pow, Bool.or_assoc]
    congr 1
    by_cases e : v.toNat = j <;> simp [e]
theorem mk_bit (s : List Int) (j : Nat) : (mk s).testBit j = decide (∃ v ∈ s, v.toNat = j) := by unfold mk; rw [mk_fold]; simp
theorem mk_lt {s : List Int} {k : Nat} (h : ∀ v ∈ s, 0 ≤ v ∧ v < k) : mk s < 2 ^ k := by
  apply Nat.lt_pow_two_of_testBit
  intro j hj
  rw [mk_bit, decide_eq_false]
  rintro ⟨v, hv, e⟩
  have := h v hv; omega
theorem mk_mem {s : List Int} (h : ∀ v ∈ s, 0 ≤ v) (j : Nat) : (mk s).testBit j = decide ((j : Int) ∈ s) := by
  rw [mk_bit]
  have : (∃ v ∈ s, v.toNat = j) ↔ (j : Int) ∈ s := ⟨fun ⟨v, hv, e⟩ => by have := h v hv; rw [show (j : Int) = v by omega]; exact hv, fun hm => ⟨j, hm, by omega⟩⟩
  simp [this]
theorem mk_snoc (s : List Int) (v : Int) : mk (s ++ [v]) = mk s ||| 2 ^ v.toNat := by unfold mk; rw [List.foldl_append]; rfl
def sdiff (a b : Nat) : Nat := a ^^^ (a &&& b)
theorem sdiff_bit (a b j : Nat) : (sdiff a b).testBit j = (a.testBit j && !b.testBit j) := by
  unfold sdiff; rw [Nat.testBit_xor, Nat.testBit_and]; cases a.testBit j <;> cases b.testBit j <;> rfl
theorem sdiff_le (a b : Nat) : sdiff a b ≤ a := by
  apply Nat.le_of_testBit
  intro i hi
  rw [sdiff_bit] at hi; simp at hi; exact hi.1
theorem sdiff_lt {a b k : Nat} (ha : a < 2 ^ k) : sdiff a b < 2 ^ k := Nat.lt_of_le_of_lt (sdiff_le a b) ha
/-! ## the same in 64 bits with a sign, and in 32 bits -/
theorem testBit_not32 (w : Nat) (b : BitVec w) (j : Nat) : (~~~b).toNat.testBit j = (decide (j < w) && !b.toNat.testBit j) := by
  rw [← BitVec.getLsbD, BitVec.getLsbD_not]; rfl
/-! 32 bits -/
theorem bv_and (a b : Nat) : BitVec.ofNat 32 a &&& BitVec.ofNat 32 b = BitVec.ofNat 32 (a &&& b) := by
  apply BitVec.eq_of_toNat_eq; simp [BitVec.toNat_and, Nat.and_mod_two_pow]
theorem bv_or (a b : Nat) : BitVec.ofNat 32 a ||| BitVec.ofNat 32 b = BitVec.ofNat 32 (a ||| b) := by
  apply BitVec.eq_of_toNat_eq; simp [BitVec.toNat_or, Nat.or_mod_two_pow]
theorem bv_shl {k : Nat} (h : k < 32) : 1#32 <<< k = BitVec.ofNat 32 (2 ^ k) := by
  apply BitVec.eq_of_toNat_eq; simp [BitVec.toNat_shiftLeft, Nat.shiftLeft_eq]
theorem bv_inj {a b : Nat} (ha : a < 2 ^ 32) (hb : b < 2 ^ 32) : BitVec.ofNat 32 a = BitVec.ofNat 32 b ↔ a = b := by
  refine ⟨fun h => ?_, fun h => by rw [h]⟩
  have := congrArg BitVec.toNat h
  rwa [BitVec.toNat_ofNat, BitVec.toNat_ofNat, Nat.mod_eq_of_lt ha, Nat.mod_eq_of_lt hb] at this
theorem bv_toNat {a : Nat} (ha : a < 2 ^ 32) : (BitVec.ofNat 32 a).toNat = a := by rw [BitVec.toNat_ofNat, Nat.mod_eq_of_lt ha]
theorem bv_andn {a b : Nat} (ha : a < 2 ^ 32) : BitVec.ofNat 32 a &&& ~~~ BitVec.ofNat 32 b = BitVec.ofNat 32 (sdiff a b) := by
  have h1 : sdiff a b < 2 ^ 32 := sdiff_lt ha
  apply BitVec.eq_of_toNat_eq
  apply bits_ext
  intro j
  rw [BitVec.toNat_and, Nat.testBit_and, testBit_not32, bv_toNat ha, bv_toNat h1, sdiff_bit, BitVec.toNat_ofNat, Nat.testBit_mod_two_pow]
  by_cases hj : j < 32
  · simp [hj]
  · rw [Nat.testBit_lt_two_pow (Nat.lt_of_lt_of_le ha (Nat.pow_le_pow_right (by decide) (by omega)))]; rfl
theorem bv_sub_one {a : Nat} (h : 0 < a) (ha : a < 2 ^ 32) : BitVec.ofNat 32 a - 1#32 = BitVec.ofNat 32 (a - 1) := by
  apply BitVec.eq_of_toNat_eq
  rw [BitVec.toNat_sub, bv_toNat ha]
  show (2 ^ 32 - 1 + a) % 2 ^ 32 = _
  have e : 2 ^ 32 - 1 + a = (a - 1) + 2 ^ 32 := by omega
  rw [e, Nat.add_mod_right, Nat.mod_eq_of_lt (by omega), bv_toNat (by omega)]
theorem bv_rest {a : Nat} (h : a ≠ 0) (ha : a < 2 ^ 32) : BitVec.ofNat 32 a &&& (BitVec.ofNat 32 a - 1#32) = BitVec.ofNat 32 (a &&& (a - 1)) := by
  rw [bv_sub_one (by omega) ha, bv_and]
theorem bv_lowbit {a : Nat} (h : a ≠ 0) (ha : a < 2 ^ 32) : BitVec.ofNat 32 a &&& -BitVec.ofNat 32 a = BitVec.ofNat 32 (2 ^ low a) := by
  have hl := low_lt h ha
  have hp : 2 ^ low a < 2 ^ 32 := Nat.pow_lt_pow_right (by decide) hl
  obtain ⟨m, e⟩ := low_spec h
  apply BitVec.eq_of_toNat_eq
  apply bits_ext
  intro j
  rw [BitVec.toNat_and, BitVec.toNat_neg, bv_toNat ha, bv_toNat hp, Nat.testBit_and, Nat.testBit_two_pow, Nat.mod_eq_of_lt (by omega)]
  have e1 : 2 ^ 32 - a = 2 ^ 32 - ((a - 1) + 1) := by omega
  rw [e1, Nat.testBit_two_pow_sub_succ (by omega)]
  have e2 : a.testBit j = (2 ^ low a * (2 * m + 1)).testBit j := by rw [← e]
  have e3 : (a - 1).testBit j = (2 ^ low a * (2 * m + 1) - 1).testBit j := by rw [← e]
  rw [e2, e3, testBit_odd, testBit_pred]
  rcases Nat.lt_trichotomy j (low a) with h | h | h
  · simp [h, show ¬ j = low a by omega, show ¬ low a = j by omega, show ¬ low a < j by omega]
  · simp [h, show low a < 32 by omega]
  · simp [show ¬ j = low a by omega, show ¬ low a = j by omega, show ¬ j < low a by omega, h]
    exact fun h _ => h
theorem deBruijn_at : ∀ k, k < 32 → deBruijn32[(((BitVec.ofNat 32 (2 ^ k)) * 125613361#32) >>> (27 : Nat)).toNat]? = some (BitVec.ofNat 8 k) := by decide
end Go.Proofs.YtbefgidkaepmmaaGreatDoor

/- Loops that gather: over a list, over numbers; what simp takes to run straight code. -/
namespace Go.Proofs.YtbefgidkaepmmaaGreatDoor
section
variable {α β A S O : Type}
theorem app_s {xs ys : List α} {k : List α → Option β} (h : xs.length + ys.length ≤ 1099511627776) : app xs ys k = k (xs ++ ys) := app_of h
theorem app1_s {xs : List α} {y : α} {k : List α → Option β} (h : xs.length + 1 ≤ 1099511627776) : app xs [y] k = k (xs ++ [y]) := app_of (show xs.length + [y].length ≤ 1099511627776 from h)
theorem fixO_ind {J : Type} {F : (A → Option β) → A → Option β} (e : J → A) (μ : J → Nat) (val : J → β) (I : J → Prop) (h : ∀ R j, I j → (∀ j', I j' → μ j' < μ j → R (e j') = some (val j')) → F R (e j) = some (val j)) (j : J) (hj : I j) :
    fixO F (e j) = some (val j) := by
  have key : ∀ n j, μ j = n → I j → ∀ m, n + 1 ≤ m → itN F m (e j) = some (val j) := by
    intro n
    induction n using Nat.strongRecOn with
    | _ n ih =>
      intro j hn hI m hm
      obtain ⟨m, rfl⟩ : ∃ k, m = k + 1 := ⟨m - 1, by omega⟩
      rw [itN_succ]
      exact h _ j hI (fun j' hI' hlt => ih (μ j') (by omega) j' rfl hI' m (by omega))
  exact fixO_of (μ j + 1) (fun m hm => key _ j rfl hj m hm)
theorem lp_nums {step : A × Int → Option ((A × Int) ⊕ O)} (n : Nat) (f : Nat → A) {o : O}
    (h : ∀ (k : Nat), k < n → step (f k, (k : Int)) = some (.inl (f (k + 1), ((k + 1 : Nat) : Int)))) (he : step (f n, (n : Int)) = some (.inr o)) : lp step (f 0, 0) = some o :=
  lp_upto (fun k => (f k, (k : Int))) n rfl h he
theorem lp_map {step : List β × Int → Option ((List β × Int) ⊕ O)} (xs : List α) (f : α → β) {o : O}
    (h : ∀ (k : Nat) (hk : k < xs.length) (l : List β), l.length = k → step (l, (k : Int)) = some (.inl (l ++ [f xs[k]], ((k + 1 : Nat) : Int))))
    (he : step (xs.map f, (xs.length : Int)) = some (.inr o)) : lp step ([], 0) = some o := by
  refine lp_upto (fun k => ((xs.take k).map f, (k : Int))) xs.length (by simp) (fun k hk => ?_) ?_
  · rw [h k hk _ (by simp; omega), take_succ_of hk, List.map_append]; rfl
  · rw [List.take_length]; exact he
theorem lp_allC {step : S → Option (S ⊕ O)} (f : Nat → S) (n : Nat) (p : Nat → Prop) (q : Prop) [Decidable q] {oT oF : O} (hq : q ↔ ∀ k, k < n → p k)
    (h1 : ∀ k, k < n → (∀ j, j < k → p j) → p k → step (f k) = some (.inl (f (k + 1)))) (h2 : ∀ k, k < n → (∀ j, j < k → p j) → ¬ p k → step (f k) = some (.inr oF))
    (h3 : (∀ k, k < n → p k) → step (f n) = some (.inr oT)) : lp step (f 0) = some (if q then oT else oF) := by
  by_cases h : q
  · rw [if_pos h]
    have ha := hq.1 h
    exact lp_up f n (fun k hk => h1 k hk (fun j hj => ha j (by omega)) (ha k hk)) (h3 ha)
  · rw [if_neg h]
    have hex : ∃ k, k < n ∧ ¬ p k := Classical.byContradiction fun hn => h (hq.2 fun k hk => Classical.byContradiction fun hp => hn ⟨k, hk, hp⟩)
    obtain ⟨m, ⟨hm, hp⟩, hl⟩ := least_of hex
    have hb : ∀ j, j < m → p j := fun j hj => Classical.byContradiction fun hn => by have := hl j ⟨by omega, hn⟩; omega
    exact lp_up f m (fun k hk => h1 k (by omega) (fun j hj => hb j (by omega)) (hb k hk)) (h2 m hm hb hp)
end
end Go.Proofs.YtbefgidkaepmmaaGreatDoor

/- Loops of common kinds: over all elements, over two lists, copies. -/
namespace Go.Proofs.YtbefgidkaepmmaaGreatDoor
section
variable {α β : Type}
end
end Go.Proofs.YtbefgidkaepmmaaGreatDoor

/- The laws' helpers on sizes: what is left of a budget. -/
namespace Go.Proofs.YtbefgidkaepmmaaGreatDoor
def less (n m : Int) : Int := if n - m < 0 then -1 else n - m
end Go.Proofs.YtbefgidkaepmmaaGreatDoor

/- The laws' helpers: copies and comparisons. -/
namespace Go.Proofs.YtbefgidkaepmmaaGreatDoor
end Go.Proofs.YtbefgidkaepmmaaGreatDoor

/- Is a number within bounds. -/
namespace Go.Proofs.YtbefgidkaepmmaaGreatDoor
theorem in_eq (x a b : Int) : (if a ≤ x then some (decide (x ≤ b)) else some false) = some (decide (a ≤ x ∧ x ≤ b)) := by
  by_cases h : a ≤ x
  · rw [if_pos h]; simp [h]
  · rw [if_neg h]; simp [h]
theorem l1In_eq (x a b : Int) : F_spec_l1In x a b = some (decide (a ≤ x ∧ x ≤ b)) := in_eq x a b
theorem inRange_eq (x a b : Int) : F_impl_inRange x a b = some (decide (a ≤ x ∧ x ≤ b)) := in_eq x a b
end Go.Proofs.YtbefgidkaepmmaaGreatDoor

/- Graphs by their rows of neighbours: what the checks of spec and impl say. -/
namespace Go.Proofs.YtbefgidkaepmmaaGreatDoor
theorem lp_for {O : Type} {step : Int → Option (Int ⊕ O)} (n : Nat) (p : Nat → Prop) (q : Prop) [Decidable q] {oT oF : O} (hq : q ↔ ∀ k, k < n → p k)
    (h1 : ∀ k, k < n → p k → step (k : Int) = some (.inl ((k : Int) + 1))) (h2 : ∀ k, k < n → ¬ p k → step (k : Int) = some (.inr oF)) (he : step (n : Int) = some (.inr oT)) :
    lp step 0 = some (if q then oT else oF) := by
  have := lp_allB (step := step) (fun k => (k : Int)) n p (decide q) (g := fun t => if t then oT else oF) (by simpa using hq) (fun k hk hp => by rw [h1 k hk hp]; rfl) h2 he
  simpa using this
def Rises (s : List Int) (n : Int) : Prop := ∀ (k : Nat) (h : k < s.length), 0 ≤ s[k] ∧ s[k] ≤ n - 1 ∧ (0 < k → s[k - 1] < s[k])
theorem Rises.ge {s : List Int} {n : Int} (h : Rises s n) : ∀ (k : Nat) (hk : k < s.length), (k : Int) ≤ s[k]
  | 0, hk => (h 0 hk).1
  | k + 1, hk => by
    have h1 := Rises.ge h k (by omega)
    have h2 := (h (k + 1) hk).2.2 (by omega)
    simp only [Nat.add_sub_cancel] at h2
    omega
theorem Rises.len {s : List Int} {n : Int} (h : Rises s n) (h0 : 0 ≤ n) : (s.length : Int) ≤ n := by
  rcases Nat.eq_zero_or_pos s.length with e | e
  · omega
  · have h1 := h.ge (s.length - 1) (by omega)
    have h2 := (h (s.length - 1) (by omega)).2.1
    omega
theorem Rises.mem {s : List Int} {n x : Int} (h : Rises s n) (hx : x ∈ s) : 0 ≤ x ∧ x < n := by
  obtain ⟨k, hk, rfl⟩ := List.getElem_of_mem hx
  have := h k hk
  omega
open Classical in
theorem increasing_eq (s : List Int) (n : Int) (hs : s.length ≤ 1099511627776) (h0 : 0 ≤ n) (h1 : n ≤ 1099511627776) : F_impl_increasing s n = some (decide (Rises s n)) := by
  unfold F_impl_increasing
  have key := lp_for (step := fun i => F_impl_increasing_l1 s n i) s.length (fun k => ∀ h : k < s.length, 0 ≤ s[k] ∧ s[k] ≤ n - 1 ∧ (0 < k → s[k - 1] < s[k])) (Rises s n) (oT := .inl ()) (oF := .inr false)
    ⟨fun h k _ => h k, fun h k hk => h k hk hk⟩ (fun k hk hp => ?_) (fun k hk hp => ?_) ?_
  · rw [key]; by_cases h : Rises s n <;> simp [h, F_impl_increasing_k2, bnd]
  · have hp := hp hk
    simp only [F_impl_increasing_l1]
    rw [if_pos (by omega), idx_nat hk, ck_of (inI (by omega) (by omega)), cal_of (inRange_eq _ _ _), if_neg (by simp; omega)]
    by_cases h : 0 < k
    · rw [if_pos (by omega), ck_of (inI (by omega) (by omega)), show (k : Int) - 1 = ((k - 1 : Nat) : Int) by omega, idx_nat (by omega), if_neg (by have := hp.2.2 h; omega), ck_of (inI (by omega) (by omega))]
    · rw [if_neg (by omega), ck_of (inI (by omega) (by omega))]
  · have hp : ¬ (0 ≤ s[k] ∧ s[k] ≤ n - 1 ∧ (0 < k → s[k - 1] < s[k])) := fun h => hp fun _ => h
    simp only [F_impl_increasing_l1]
    rw [if_pos (by omega), idx_nat hk, ck_of (inI (by omega) (by omega)), cal_of (inRange_eq _ _ _)]
    by_cases h : 0 ≤ s[k] ∧ s[k] ≤ n - 1
    · have h2 : 0 < k ∧ s[k] ≤ s[k - 1] := by
        by_cases h3 : 0 < k
        · refine ⟨h3, ?_⟩
          by_cases h4 : s[k - 1] < s[k]
          · exact absurd ⟨h.1, h.2, fun _ => h4⟩ hp
          · omega
        · exact absurd ⟨h.1, h.2, fun h4 => absurd h4 h3⟩ hp
      rw [if_neg (by simp; omega), if_pos (by omega), ck_of (inI (by omega) (by omega)), show (k : Int) - 1 = ((k - 1 : Nat) : Int) by omega, idx_nat (by omega), if_pos h2.2]
    · rw [if_pos (by simpa using h)]
  · simp only [F_impl_increasing_l1]; rw [if_neg (by omega)]
open Classical in
theorem l1Set_eq (s : List Int) (n : Int) (hs : s.length ≤ 1099511627776) (h0 : 0 ≤ n) (h1 : n ≤ 1099511627776) : F_spec_l1Set s n = some (decide (Rises s n)) := by
  unfold F_spec_l1Set
  by_cases hl : n < (s.length : Int)
  · rw [if_pos hl, decide_eq_false]
    intro h; have := h.len h0; omega
  rw [if_neg hl]
  have key := lp_for (step := fun i => F_spec_l1Set_l1 s n i) s.length (fun k => ∀ h : k < s.length, 0 ≤ s[k] ∧ s[k] ≤ n - 1 ∧ (0 < k → s[k - 1] < s[k])) (Rises s n) (oT := .inl ()) (oF := .inr false)
    ⟨fun h k _ => h k, fun h k hk => h k hk hk⟩ (fun k hk hp => ?_) (fun k hk hp => ?_) ?_
  · rw [key]; by_cases h : Rises s n <;> simp [h, F_spec_l1Set_k2, bnd]
  · have hp := hp hk
    simp only [F_spec_l1Set_l1]
    rw [if_pos (by omega), idx_nat hk, ck_of (inI (by omega) (by omega)), cal_of (l1In_eq _ _ _), if_neg (by simp; omega)]
    by_cases h : 0 < k
    · rw [if_pos (by omega), idx_nat hk, ck_of (inI (by omega) (by omega)), show (k : Int) - 1 = ((k - 1 : Nat) : Int) by omega, idx_nat (by omega), if_neg (by have := hp.2.2 h; omega), ck_of (inI (by omega) (by omega))]
    · rw [if_neg (by omega), ck_of (inI (by omega) (by omega))]
  · have hp : ¬ (0 ≤ s[k] ∧ s[k] ≤ n - 1 ∧ (0 < k → s[k - 1] < s[k])) := fun h => hp fun _ => h
    simp only [F_spec_l1Set_l1]
    rw [if_pos (by omega), idx_nat hk, ck_of (inI (by omega) (by omega)), cal_of (l1In_eq _ _ _)]
    by_cases h : 0 ≤ s[k] ∧ s[k] ≤ n - 1
    · have h2 : 0 < k ∧ s[k] ≤ s[k - 1] := by
        by_cases h3 : 0 < k
        · refine ⟨h3, ?_⟩
          by_cases h4 : s[k - 1] < s[k]
          · exact absurd ⟨h.1, h.2, fun _ => h4⟩ hp
          · omega
        · exact absurd ⟨h.1, h.2, fun h4 => absurd h4 h3⟩ hp
      rw [if_neg (by simp; omega), if_pos (by omega), idx_nat hk, ck_of (inI (by omega) (by omega)), show (k : Int) - 1 = ((k - 1 : Nat) : Int) by omega, idx_nat (by omega), if_pos h2.2]
    · rw [if_pos (by simpa using h)]
  · simp only [F_spec_l1Set_l1]; rw [if_neg (by omega)]
theorem l1Has_eq (s : List Int) (x : Int) (hs : s.length ≤ 1099511627776) : F_spec_l1Has s x = some (decide (x ∈ s)) := by
  unfold F_spec_l1Has
  have key := lp_for (step := fun i => F_spec_l1Has_l1 s x i) s.length (fun k => ∀ h : k < s.length, s[k] ≠ x) (¬ x ∈ s) (oT := .inl ()) (oF := .inr true)
    ⟨fun h k _ hk e => h (by rw [← e]; exact List.getElem_mem hk), fun h hm => by obtain ⟨k, hk, e⟩ := List.getElem_of_mem hm; exact h k hk hk e⟩ (fun k hk hp => ?_) (fun k hk hp => ?_) ?_
  · rw [key]; by_cases h : x ∈ s <;> simp [h, F_spec_l1Has_k2, bnd]
  · simp only [F_spec_l1Has_l1]
    rw [if_pos (by omega), idx_nat hk, if_neg (hp hk), ck_of (inI (by omega) (by omega))]
  · have hp : s[k] = x := by
      by_cases e : s[k] = x
      · exact e
      · exact absurd (fun _ => e) hp
    simp only [F_spec_l1Has_l1]
    rw [if_pos (Int.ofNat_lt.2 hk), idx_nat hk, if_pos hp]
  · simp only [F_spec_l1Has_l1]; rw [if_neg (by omega)]
theorem contains_eq (s : List Int) (x : Int) (hs : s.length ≤ 1099511627776) : F_slices_Contains_int64 s x = some (decide (x ∈ s)) := by
  unfold F_slices_Contains_int64 F_slices_Index_int64
  by_cases hx : x ∈ s
  · have hi : s.idxOf x < s.length := List.idxOf_lt_length_iff.2 hx
    have key : lp (fun i => F_slices_Index_int64_l1 s x i) 0 = some (.inr (s.idxOf x : Int)) := by
      refine lp_upto (fun k => (k : Int)) (s.idxOf x) (by simp) (fun k hk => ?_) ?_
      · simp only [F_slices_Index_int64_l1]
        have hk' : k < s.length := by omega
        have := ne_of_lt_idxOf hk hk'
        rw [if_pos (by omega), idx_nat hk', if_neg (Ne.symm this), ck_of (inI (by omega) (by omega))]; rfl
      · simp only [F_slices_Index_int64_l1]
        rw [if_pos (by omega), idx_nat hi, if_pos (by simp)]
    rw [bnd_r key, cal_some_eq]; simp [hx]
  · have key : lp (fun i => F_slices_Index_int64_l1 s x i) 0 = some (.inl ()) := by
      refine lp_upto (fun k => (k : Int)) s.length (by simp) (fun k hk => ?_) ?_
      · simp only [F_slices_Index_int64_l1]
        rw [if_pos (by omega), idx_nat hk, if_neg (fun e => hx (by rw [e]; exact List.getElem_mem hk)), ck_of (inI (by omega) (by omega))]; rfl
      · simp only [F_slices_Index_int64_l1]; rw [if_neg (by omega)]
    rw [bnd_l key]; simp [F_slices_Index_int64_k2, hx]
structure GOk (g : List (List Int)) : Prop where
  n1 : 1 ≤ g.length
  n16 : g.length ≤ 16
  rows : ∀ (v : Nat) (h : v < g.length), Rises g[v] g.length ∧ (v : Int) ∉ g[v]
  sym : ∀ (v : Nat) (h : v < g.length), ∀ w ∈ g[v], ∀ (hw : w.toNat < g.length), (v : Int) ∈ g[w.toNat]
open Classical in
theorem bnd_if {A : Type} {q : Prop} [Decidable q] {x : Unit} {y : A} {k : Unit → Option A} : bnd (some (if q then .inl x else .inr y)) k = if q then k x else some y := by split <;> rfl
open Classical in
theorem specGraph_inner (g : List (List Int)) (hl : ∀ x ∈ g, x.length ≤ 1048576) (hr : ∀ (v : Nat) (h : v < g.length), Rises g[v] g.length ∧ (v : Int) ∉ g[v]) (k : Nat) (hk : k < g.length) :
    lp (fun s => F_spec_GraphOk_l4 g (k : Int) s) 0 = some (if ∀ w ∈ g[k], ∀ (hw : w.toNat < g.length), (k : Int) ∈ g[w.toNat] then .inl () else .inr (.inr (.inr false))) := by
  have hlk := hl _ (List.getElem_mem hk)
  refine lp_for g[k].length (fun j => ∀ (hj : j < g[k].length) (hw : (g[k][j]).toNat < g.length), (k : Int) ∈ g[(g[k][j]).toNat]) _ ⟨fun h j _ hj hw => h _ (List.getElem_mem hj) hw, fun h w hw => ?_⟩ (fun j hj hp => ?_) (fun j hj hp => ?_) ?_
  · obtain ⟨j, hj, rfl⟩ := List.getElem_of_mem hw
    exact h j hj hj
  · have hm := (hr k hk).1.mem (List.getElem_mem hj)
    obtain ⟨m, hm2⟩ := Int.eq_ofNat_of_zero_le hm.1
    have hmg : m < g.length := by omega
    have hp := hp hj (by omega)
    have hl2 := hl _ (List.getElem_mem hmg)
    simp only [F_spec_GraphOk_l4]
    rw [idx_nat hk, if_pos (by omega), idx_nat hk, idx_nat hj, hm2, idx_nat hmg, cal_of (l1Has_eq _ _ (by omega))]
    simp only [hm2, Int.toNat_natCast] at hp
    rw [if_neg (by simp [hp]), ck_of (inI (by omega) (by omega))]
  · have hm := (hr k hk).1.mem (List.getElem_mem hj)
    obtain ⟨m, hm2⟩ := Int.eq_ofNat_of_zero_le hm.1
    have hmg : m < g.length := by omega
    have hl2 := hl _ (List.getElem_mem hmg)
    have hp : ¬ (k : Int) ∈ g[m] := fun h => hp fun _ hw => by simp only [hm2, Int.toNat_natCast]; exact h
    simp only [F_spec_GraphOk_l4]
    rw [idx_nat hk, if_pos (by omega), idx_nat hk, idx_nat hj, hm2, idx_nat hmg, cal_of (l1Has_eq _ _ (by omega)), if_pos (by simp [hp])]
  · simp only [F_spec_GraphOk_l4]; rw [idx_nat hk, if_neg (by omega)]
open Classical in
theorem specGraphOk_eq (g : List (List Int)) (hl : ∀ x ∈ g, x.length ≤ 1048576) : F_spec_GraphOk g = some (decide (GOk g)) := by
  unfold F_spec_GraphOk F_spec_l1Size
  rw [cal_some_eq, cal_of (l1In_eq _ _ _)]
  by_cases hn : 1 ≤ g.length ∧ g.length ≤ 16
  case neg =>
    rw [if_pos (by simp; omega), decide_eq_false]
    exact fun h => hn ⟨h.n1, h.n16⟩
  rw [if_neg (by simp; omega)]
  have key := lp_for (step := fun i => F_spec_GraphOk_l1 g (g.length : Int) i) g.length (fun v => ∀ h : v < g.length, Rises g[v] g.length ∧ (v : Int) ∉ g[v]) (∀ (v : Nat) (h : v < g.length), Rises g[v] g.length ∧ (v : Int) ∉ g[v])
    (oT := .inl ()) (oF := .inr false) ⟨fun h k _ => h k, fun h k hk => h k hk hk⟩ (fun k hk hp => ?_) (fun k hk hp => ?_) ?_
  · rw [key, bnd_if]
    by_cases hr : ∀ (v : Nat) (h : v < g.length), Rises g[v] g.length ∧ (v : Int) ∉ g[v]
    case neg =>
      rw [if_neg hr, decide_eq_false]
      exact fun h => hr h.rows
    rw [if_pos hr]
    unfold F_spec_GraphOk_k2
    have key2 := lp_for (step := fun i => F_spec_GraphOk_l3 g (g.length : Int) i) g.length (fun v => ∀ h : v < g.length, ∀ w ∈ g[v], ∀ (hw : w.toNat < g.length), (v : Int) ∈ g[w.toNat])
      (∀ (v : Nat) (h : v < g.length), ∀ w ∈ g[v], ∀ (hw : w.toNat < g.length), (v : Int) ∈ g[w.toNat])
      (oT := .inl ()) (oF := .inr false) ⟨fun h k _ => h k, fun h k hk => h k hk hk⟩ ?_ ?_ ?_
    · rw [key2, bnd_if]
      by_cases hs : ∀ (v : Nat) (h : v < g.length), ∀ w ∈ g[v], ∀ (hw : w.toNat < g.length), (v : Int) ∈ g[w.toNat]
      · rw [if_pos hs, decide_eq_true ⟨hn.1, hn.2, hr, hs⟩]; rfl
      · rw [if_neg hs, decide_eq_false]
        exact fun h => hs h.sym
    · intro k hk hp
      have hp := hp hk
      simp only [F_spec_GraphOk_l3]
      rw [if_pos (by omega), specGraph_inner g hl hr k hk, if_pos hp, bnd_inl_eq]
      unfold F_spec_GraphOk_k5
      rw [ck_of (inI (by omega) (by omega))]
    · intro k hk hp
      have hp : ¬ ∀ w ∈ g[k], ∀ (hw : w.toNat < g.length), (k : Int) ∈ g[w.toNat] := fun h => hp fun _ => h
      simp only [F_spec_GraphOk_l3]
      rw [if_pos (by omega), specGraph_inner g hl hr k hk, if_neg hp, bnd_inr_eq]
    · simp only [F_spec_GraphOk_l3]; rw [if_neg (by omega)]
  · have hp := hp hk
    have hlk := hl _ (List.getElem_mem hk)
    simp only [F_spec_GraphOk_l1]
    rw [if_pos (by omega), idx_nat hk, cal_of (l1Set_eq _ _ (by omega) (by omega) (by omega)), if_neg (by simp [hp.1]), idx_nat hk, cal_of (l1Has_eq _ _ (by omega)), if_neg (by simp [hp.2]), ck_of (inI (by omega) (by omega))]
  · have hp : ¬ (Rises g[k] g.length ∧ (k : Int) ∉ g[k]) := fun h => hp fun _ => h
    have hlk := hl _ (List.getElem_mem hk)
    simp only [F_spec_GraphOk_l1]
    rw [if_pos (by omega), idx_nat hk, cal_of (l1Set_eq _ _ (by omega) (by omega) (by omega))]
    by_cases h : Rises g[k] g.length
    · have h2 : (k : Int) ∈ g[k] := Classical.byContradiction fun h2 => hp ⟨h, h2⟩
      rw [if_neg (by simp [h]), idx_nat hk, cal_of (l1Has_eq _ _ (by omega)), if_pos (by simp [h2])]
    · rw [if_pos (by simp [h])]
  · simp only [F_spec_GraphOk_l1]; rw [if_neg (by omega)]

open Classical in
theorem implGraph_inner (g : List (List Int)) (hl : ∀ x ∈ g, x.length ≤ 1048576) (hr : ∀ (v : Nat) (h : v < g.length), Rises g[v] g.length ∧ (v : Int) ∉ g[v]) (k : Nat) (hk : k < g.length) :
    lp (fun s => F_impl_GraphOk_l4 g (k : Int) g[k] s) 0 = some (if ∀ w ∈ g[k], ∀ (hw : w.toNat < g.length), (k : Int) ∈ g[w.toNat] then .inl () else .inr (.inr (.inr false))) := by
  have hlk := hl _ (List.getElem_mem hk)
  refine lp_for g[k].length (fun j => ∀ (hj : j < g[k].length) (hw : (g[k][j]).toNat < g.length), (k : Int) ∈ g[(g[k][j]).toNat]) _ ⟨fun h j _ hj hw => h _ (List.getElem_mem hj) hw, fun h w hw => ?_⟩ (fun j hj hp => ?_) (fun j hj hp => ?_) ?_
  · obtain ⟨j, hj, rfl⟩ := List.getElem_of_mem hw
    exact h j hj hj
  · have hm := (hr k hk).1.mem (List.getElem_mem hj)
    obtain ⟨m, hm2⟩ := Int.eq_ofNat_of_zero_le hm.1
    have hmg : m < g.length := by omega
    have hp := hp hj (by omega)
    have hl2 := hl _ (List.getElem_mem hmg)
    simp only [F_impl_GraphOk_l4]
    rw [if_pos (by omega), idx_nat hj, hm2, idx_nat hmg, cal_of (contains_eq _ _ (by omega))]
    simp only [hm2, Int.toNat_natCast] at hp
    rw [if_neg (by simp [hp]), ck_of (inI (by omega) (by omega))]
  · have hm := (hr k hk).1.mem (List.getElem_mem hj)
    obtain ⟨m, hm2⟩ := Int.eq_ofNat_of_zero_le hm.1
    have hmg : m < g.length := by omega
    have hl2 := hl _ (List.getElem_mem hmg)
    have hp : ¬ (k : Int) ∈ g[m] := fun h => hp fun _ hw => by simp only [hm2, Int.toNat_natCast]; exact h
    simp only [F_impl_GraphOk_l4]
    rw [if_pos (by omega), idx_nat hj, hm2, idx_nat hmg, cal_of (contains_eq _ _ (by omega)), if_pos (by simp [hp])]
  · simp only [F_impl_GraphOk_l4]; rw [if_neg (by omega)]
open Classical in
theorem implGraphOk_eq (g : List (List Int)) (hg : g.length ≤ 1048576) (hl : ∀ x ∈ g, x.length ≤ 1048576) : F_impl_GraphOk g = some (decide (GOk g)) := by
  unfold F_impl_GraphOk
  by_cases hn : 1 ≤ g.length ∧ g.length ≤ 16
  case neg =>
    rw [decide_eq_false (fun h : GOk g => hn ⟨h.n1, h.n16⟩)]
    by_cases h1 : (g.length : Int) < 1
    · rw [if_pos h1]
    · rw [if_neg h1, if_pos (by omega)]
  rw [if_neg (by omega), if_neg (by omega)]
  have key := lp_for (step := fun i => F_impl_GraphOk_l1 g i) g.length (fun v => ∀ h : v < g.length, Rises g[v] g.length ∧ (v : Int) ∉ g[v]) (∀ (v : Nat) (h : v < g.length), Rises g[v] g.length ∧ (v : Int) ∉ g[v])
    (oT := .inl ()) (oF := .inr false) ⟨fun h k _ => h k, fun h k hk => h k hk hk⟩ (fun k hk hp => ?_) (fun k hk hp => ?_) ?_
  · rw [key, bnd_if]
    by_cases hr : ∀ (v : Nat) (h : v < g.length), Rises g[v] g.length ∧ (v : Int) ∉ g[v]
    case neg =>
      rw [if_neg hr, decide_eq_false]
      exact fun h => hr h.rows
    rw [if_pos hr]
    unfold F_impl_GraphOk_k2
    have key2 := lp_for (step := fun i => F_impl_GraphOk_l3 g i) g.length (fun v => ∀ h : v < g.length, ∀ w ∈ g[v], ∀ (hw : w.toNat < g.length), (v : Int) ∈ g[w.toNat])
      (∀ (v : Nat) (h : v < g.length), ∀ w ∈ g[v], ∀ (hw : w.toNat < g.length), (v : Int) ∈ g[w.toNat])
      (oT := .inl ()) (oF := .inr false) ⟨fun h k _ => h k, fun h k hk => h k hk hk⟩ ?_ ?_ ?_
    · rw [key2, bnd_if]
      by_cases hs : ∀ (v : Nat) (h : v < g.length), ∀ w ∈ g[v], ∀ (hw : w.toNat < g.length), (v : Int) ∈ g[w.toNat]
      · rw [if_pos hs, decide_eq_true ⟨hn.1, hn.2, hr, hs⟩]; rfl
      · rw [if_neg hs, decide_eq_false]
        exact fun h => hs h.sym
    · intro k hk hp
      have hp := hp hk
      simp only [F_impl_GraphOk_l3]
      rw [if_pos (by omega), idx_nat hk, implGraph_inner g hl hr k hk, if_pos hp, bnd_inl_eq]
      unfold F_impl_GraphOk_k5
      rw [ck_of (inI (by omega) (by omega))]
    · intro k hk hp
      have hp : ¬ ∀ w ∈ g[k], ∀ (hw : w.toNat < g.length), (k : Int) ∈ g[w.toNat] := fun h => hp fun _ => h
      simp only [F_impl_GraphOk_l3]
      rw [if_pos (by omega), idx_nat hk, implGraph_inner g hl hr k hk, if_neg hp, bnd_inr_eq]
    · simp only [F_impl_GraphOk_l3]; rw [if_neg (by omega)]
  · have hp := hp hk
    have hlk := hl _ (List.getElem_mem hk)
    simp only [F_impl_GraphOk_l1]
    rw [if_pos (by omega), idx_nat hk, cal_of (increasing_eq _ _ (by omega) (by omega) (by omega)), if_neg (by simp [hp.1]), cal_of (contains_eq _ _ (by omega)), if_neg (by simp [hp.2]), ck_of (inI (by omega) (by omega))]
  · have hp : ¬ (Rises g[k] g.length ∧ (k : Int) ∉ g[k]) := fun h => hp fun _ => h
    have hlk := hl _ (List.getElem_mem hk)
    simp only [F_impl_GraphOk_l1]
    rw [if_pos (by omega), idx_nat hk, cal_of (increasing_eq _ _ (by omega) (by omega) (by omega))]
    by_cases h : Rises g[k] g.length
    · have h2 : (k : Int) ∈ g[k] := Classical.byContradiction fun h2 => hp ⟨h, h2⟩
      rw [if_neg (by simp [h]), cal_of (contains_eq _ _ (by omega)), if_pos (by simp [h2])]
    · rw [if_pos (by simp [h])]
  · simp only [F_impl_GraphOk_l1]; rw [if_neg (by omega)]
end Go.Proofs.YtbefgidkaepmmaaGreatDoor

/- Sets of vertices in the program (32 bits) and in the reference (64 bits with a sign): both are the same natural number. -/
namespace Go.Proofs.YtbefgidkaepmmaaGreatDoor
def ints (l : List Nat) : List Int := l.map fun (v : Nat) => (v : Int)
def nb (g : List (List Int)) : List Nat := g.map mk
theorem ints_len (l : List Nat) : (ints l).length = l.length := by simp [ints]
theorem nb_len (g : List (List Int)) : (nb g).length = g.length := by simp [nb]
theorem ints_get {l : List Nat} {k : Nat} (h : k < (ints l).length) : (ints l)[k] = ((l[k]'(by simpa [ints] using h) : Nat) : Int) := by simp [ints]
theorem ints_snoc (l : List Nat) (v : Nat) : ints l ++ [(v : Int)] = ints (l ++ [v]) := by simp [ints]
theorem idx_ints {β : Type} {l : List Nat} {k : Nat} {f : Int → Option β} (h : k < l.length) : idx (ints l) (k : Int) f = f ((l[k] : Nat) : Int) := by
  rw [idx_nat (by rw [ints_len]; exact h), ints_get]
/-! ## good graphs -/
theorem GOk.row_mem {g : List (List Int)} (hg : GOk g) {v : Nat} (h : v < g.length) {x : Int} (hx : x ∈ g[v]) : 0 ≤ x ∧ x < g.length := (hg.rows v h).1.mem hx
theorem pow16 {n : Nat} (h : n ≤ 16) : 2 ^ n ≤ 2 ^ 16 := Nat.pow_le_pow_right (by decide) h
theorem Rises.lt {s : List Int} {n : Nat} (h : Rises s n) : mk s < 2 ^ n := mk_lt fun v hv => by have := h.mem hv; omega
theorem GOk.row_len {g : List (List Int)} (hg : GOk g) {v : Nat} (h : v < g.length) : g[v].length ≤ 16 := by
  have h1 := (hg.rows v h).1.len (by omega)
  have h2 := hg.n16
  omega
theorem tz_eq {n : Nat} (h : n ≠ 0) (hn : n < 2 ^ 32) : F_math_bits_TrailingZeros32 (BitVec.ofNat 32 n) = some (low n : Int) := by
  have hl := low_lt h hn
  unfold F_math_bits_TrailingZeros32
  have h0 : ¬ BitVec.ofNat 32 n = 0#32 := fun e => h ((bv_inj hn (by decide)).1 e)
  rw [if_neg h0, bv_lowbit h hn]
  have hd := deBruijn_at (low n) hl
  rw [idx_of (Int.natCast_nonneg _) (by rw [Int.toNat_natCast]; exact hd), BitVec.toNat_ofNat, Nat.mod_eq_of_lt (by omega)]
theorem least_eq {n : Nat} (h : n ≠ 0) (hn : n < 2 ^ 32) : F_impl_vset_least (BitVec.ofNat 32 n) = some (low n : Int) := by unfold F_impl_vset_least; rw [tz_eq h hn]; rfl
theorem list_eq {n : Nat} (hn : n < 2 ^ 16) : F_impl_vset_list (BitVec.ofNat 32 n) = some (ints (els n)) := by
  unfold F_impl_vset_list
  have key : ∀ n : Nat, n < 2 ^ 16 → ∀ l : List Nat, l.length + (els n).length ≤ 16 → lp (fun s => F_impl_vset_list_l1 s.1 s.2) (BitVec.ofNat 32 n, ints l) = some (.inl (ints (l ++ els n))) := by
    intro n
    induction n using Nat.strongRecOn with
    | _ n ih =>
      intro hn l hl
      rw [lp_unfold]
      by_cases h : n = 0
      · subst h; simp [els_zero, F_impl_vset_list_l1]
      · have h0 : BitVec.ofNat 32 n ≠ 0#32 := fun e => h ((bv_inj (by omega) (by decide)).1 e)
        have e := els_cons h hn
        rw [e, List.length_cons] at hl
        have hs : F_impl_vset_list_l1 (BitVec.ofNat 32 n) (ints l) = some (.inl (BitVec.ofNat 32 (n &&& (n - 1)), ints (l ++ [low n]))) := by
          unfold F_impl_vset_list_l1
          rw [if_pos h0, least_eq h (by omega), cal_some_eq, app1_s (by rw [ints_len]; omega), bv_rest h (by omega), ints_snoc]
        simp only [hs]
        rw [ih _ (rest_lt h) (Nat.lt_trans (rest_lt h) hn) _ (by simp; omega), e, List.append_assoc]; rfl
  have := key n hn [] (by have := els_len_le n; simp; omega)
  rw [show ints [] = [] from rfl] at this
  rw [bnd_l this]; rfl
theorem one_eq {v : Nat} (h : v < 32) : F_impl_one (v : Int) = some (BitVec.ofNat 32 (2 ^ v)) := by
  unfold F_impl_one; rw [grd_of (Int.natCast_nonneg _), Int.toNat_natCast, bv_shl h]
open Classical in
theorem specSetOk_eq (g : List (List Int)) (s : List Int) (hl : ∀ x ∈ g, x.length ≤ 1048576) (hs : s.length ≤ 1048576) : F_spec_SetOk g s = some (decide (GOk g ∧ Rises s g.length)) := by
  unfold F_spec_SetOk F_spec_l1Size
  rw [cal_of (specGraphOk_eq g hl)]
  by_cases hg : GOk g
  · have := hg.n16
    rw [if_pos (by simp [hg]), cal_some_eq, cal_of (l1Set_eq s _ (by omega) (by omega) (by omega))]; simp [hg]
  · rw [if_neg (by simp [hg])]; simp [hg]
end Go.Proofs.YtbefgidkaepmmaaGreatDoor

/- What the reference and the program ask of sets of vertices: stable, clique, ruling. -/
namespace Go.Proofs.YtbefgidkaepmmaaGreatDoor
def each (n s : Nat) (p : Nat → Bool) : Bool := (List.range n).all fun v => !s.testBit v || p v
theorem getD_get {a : List Nat} {v : Nat} (h : v < a.length) : a.getD v 0 = a[v] := by simp [h]
theorem els_range {n s : Nat} (hn : n ≤ 16) (hs : s < 2 ^ n) : els s = (List.range n).filter (fun v => s.testBit v) := by
  have h16 : s < 2 ^ 16 := Nat.lt_of_lt_of_le hs (pow16 hn)
  refine sorted_ext (els_sorted s) (List.Pairwise.sublist List.filter_sublist List.pairwise_lt_range) fun x => ?_
  rw [mem_els h16, List.mem_filter, List.mem_range]
  exact ⟨fun h => ⟨bit_lt hs h, h⟩, fun h => h.2⟩
end Go.Proofs.YtbefgidkaepmmaaGreatDoor

/- Counting sets: loops over all sets, one to one. -/
namespace Go.Proofs.YtbefgidkaepmmaaGreatDoor
end Go.Proofs.YtbefgidkaepmmaaGreatDoor

/- Tables over all sets: the value of a set out of those without its least member, and without a neighbour of it. -/
namespace Go.Proofs.YtbefgidkaepmmaaGreatDoor
section
variable (a : List Nat) (e0 : Int) (of : Int → List Int → Int)
end
end Go.Proofs.YtbefgidkaepmmaaGreatDoor

/- How many matchings there are: the reference's table. -/
namespace Go.Proofs.YtbefgidkaepmmaaGreatDoor
end Go.Proofs.YtbefgidkaepmmaaGreatDoor

/- What is reached from a vertex among some, and the parts of some vertices. -/
namespace Go.Proofs.YtbefgidkaepmmaaGreatDoor
section
variable {S O A : Type}
theorem lp_inl {step : S → Option (S ⊕ O)} {s s' : S} (h : step s = some (.inl s')) : lp step s = lp step s' := by rw [lp_unfold, h]
theorem lp_inr {step : S → Option (S ⊕ O)} {s : S} {o : O} (h : step s = some (.inr o)) : lp step s = some o := by rw [lp_unfold, h]
theorem lp_ex {step : S → Option (S ⊕ O)} (st : Nat → A → S) (n : Nat) (Inv : Nat → A → Prop) (Q : O → Prop) (h : ∀ k a, k < n → Inv k a → ∃ a', step (st k a) = some (.inl (st (k + 1) a')) ∧ Inv (k + 1) a')
    (he : ∀ a, Inv n a → ∃ o, step (st n a) = some (.inr o) ∧ Q o) : ∀ (m k : Nat) (a : A), k + m = n → Inv k a → ∃ o, lp step (st k a) = some o ∧ Q o
  | 0, k, a, hk, hi => by
    have e : k = n := by omega
    subst e
    obtain ⟨o, h1, h2⟩ := he a hi
    exact ⟨o, lp_inr h1, h2⟩
  | m + 1, k, a, hk, hi => by
    obtain ⟨a', h1, h2⟩ := h k a (by omega) hi
    obtain ⟨o, h3, h4⟩ := lp_ex st n Inv Q h he m (k + 1) a' (by omega) h2
    exact ⟨o, by rw [lp_inl h1, h3], h4⟩
end
def SubB (s t : Nat) : Prop := ∀ j, s.testBit j = true → t.testBit j = true
theorem SubB.le {s t : Nat} (h : SubB s t) : s ≤ t := by
  have e : s = t &&& s := bits_ext fun j => by
    rw [Nat.testBit_and]
    cases e : s.testBit j with
    | true => rw [h j e]; rfl
    | false => simp
  rw [e]; exact Nat.and_le_left
theorem SubB.refl (s : Nat) : SubB s s := fun _ h => h
theorem SubB.trans {s t u : Nat} (h : SubB s t) (h' : SubB t u) : SubB s u := fun j hj => h' j (h j hj)
theorem SubB.or {s t u : Nat} (h : SubB s u) (h' : SubB t u) : SubB (s ||| t) u := fun j hj => by
  rw [Nat.testBit_or, Bool.or_eq_true] at hj
  exact hj.elim (h j) (h' j)
end Go.Proofs.YtbefgidkaepmmaaGreatDoor

/- Dice, and graphs made edge by edge: what they give, in plain Lean. -/
namespace Go.Proofs.YtbefgidkaepmmaaGreatDoor
theorem l1Copy_eqD {l : List Int} (h : l.length ≤ 1048576) : F_spec_l1Copy l = some l := by
  unfold F_spec_l1Copy
  rw [app_s (by simp; omega)]; rfl
theorem into_any {l : List Int} (x : Int) (hl : l.length ≤ 1000000) (hs : l.Pairwise (· < ·)) : ∃ r, F_spec_l1Into l x = some r ∧ (∀ y, y ∈ r ↔ y ∈ l ∨ y = x) ∧ r.Pairwise (· < ·) := by
  obtain ⟨o, h1, i, rfl, hi, hlt, hge⟩ : ∃ o, lp (fun s => F_spec_l1Into_l1 l x s) 0 = some o ∧ ∃ i : Nat, o = .inl (i : Int) ∧ i ≤ l.length ∧ (∀ j (hj : j < l.length), j < i → l[j] < x) ∧ (∀ h : i < l.length, ¬ l[i] < x) := by
    refine lp_rule (step := fun s => F_spec_l1Into_l1 l x s) (fun s => ∃ k : Nat, s = (k : Int) ∧ k ≤ l.length ∧ ∀ j (hj : j < l.length), j < k → l[j] < x) (fun s => l.length - s.toNat) (fun o => ∃ i : Nat, o = .inl (i : Int) ∧ i ≤ l.length ∧ (∀ j (hj : j < l.length), j < i → l[j] < x) ∧ (∀ h : i < l.length, ¬ l[i] < x)) ?_ 0 ⟨0, rfl, Nat.zero_le _, fun j _ h => by omega⟩
    rintro s ⟨k, rfl, hk, hb⟩
    simp only [F_spec_l1Into_l1]
    by_cases h : k < l.length
    · rw [if_pos (by omega), idx_nat h]
      by_cases h2 : l[k] < x
      · rw [if_pos h2, ck_of (inI (by omega) (by omega))]
        refine .inl ⟨_, rfl, ⟨k + 1, by omega, by omega, fun j hj hjk => ?_⟩, by omega⟩
        by_cases e : j = k
        · subst e; exact h2
        · exact hb j hj (by omega)
      · rw [if_neg h2]; exact .inr ⟨_, rfl, k, rfl, hk, hb, fun _ => h2⟩
    · rw [if_neg (by omega)]; exact .inr ⟨_, rfl, k, rfl, hk, hb, fun h' => absurd h' h⟩
  unfold F_spec_l1Into
  rw [bnd_l h1]
  unfold F_spec_l1Into_k2
  have hput : ∀ {β : Type} (q : List Int → Option β), slc l 0 (i : Int) (fun _ => cal (F_spec_l1Copy ((l.drop (0 : Int).toNat).take ((i : Int).toNat - (0 : Int).toNat))) (fun x95 => app x95 ([x]) (fun _ => slc l (i : Int) (l.length : Int) (fun _ =>
      app (x95 ++ ([x])) ((l.drop (i : Int).toNat).take (((l.length : Int) : Int).toNat - (i : Int).toNat)) (fun _ => q ((x95 ++ ([x])) ++ ((l.drop (i : Int).toNat).take (((l.length : Int) : Int).toNat - (i : Int).toNat)))))))) = q ((l.take i ++ [x]) ++ l.drop i) := by
    intro β q
    have e : (l.drop i).take (l.length - i) = l.drop i := List.take_of_length_le (by simp)
    rw [slc_of ⟨by decide, by omega, by omega⟩, show (0 : Int).toNat = 0 from rfl, List.drop_zero, Int.toNat_natCast, Nat.sub_zero, cal_of (l1Copy_eqD (by rw [List.length_take]; omega)), app1_s (by rw [List.length_take]; omega), slc_of ⟨by omega, by omega, by omega⟩, Int.toNat_natCast, e, app_s (by simp; omega)]
  have hmem : ∀ y, y ∈ (l.take i ++ [x]) ++ l.drop i ↔ y ∈ l ∨ y = x := by
    intro y
    have e : y ∈ l ↔ y ∈ l.take i ∨ y ∈ l.drop i := by rw [← List.mem_append, List.take_append_drop]
    rw [e]
    simp only [List.mem_append, List.mem_singleton]
    constructor
    · rintro ((h | h) | h)
      · exact .inl (.inl h)
      · exact .inr h
      · exact .inl (.inr h)
    · rintro ((h | h) | h)
      · exact .inl (.inl h)
      · exact .inr h
      · exact .inl (.inr h)
  have htake : ∀ y ∈ l.take i, y < x := fun y hy => by
    rw [List.mem_take_iff_getElem] at hy
    obtain ⟨j, hj, rfl⟩ := hy
    exact hlt j (by omega) (by omega)
  have hsort : (∀ h : i < l.length, l[i] ≠ x) → ((l.take i ++ [x]) ++ l.drop i).Pairwise (· < ·) := by
    intro hne
    have hdrop : ∀ y ∈ l.drop i, x < y := fun y hy => by
      rw [List.mem_drop_iff_getElem] at hy
      obtain ⟨j, hj, rfl⟩ := hy
      have h3 := hge (by omega)
      have h4 := hne (by omega)
      rcases Nat.eq_zero_or_pos j with e | e
      · subst e; simp only [Nat.add_zero]; omega
      · have := List.pairwise_iff_getElem.1 hs i (i + j) (by omega) (by omega) (by omega); omega
    rw [List.pairwise_append, List.pairwise_append]
    refine ⟨⟨hs.sublist (List.take_sublist ..), by simp, fun a ha b hb => by rw [List.mem_singleton.1 hb]; exact htake a ha⟩, hs.sublist (List.drop_sublist ..), fun a ha b hb => ?_⟩
    have hb2 := hdrop b hb
    rcases List.mem_append.1 ha with h | h
    · have := htake a h; omega
    · rw [List.mem_singleton.1 h]; exact hb2
  by_cases h : i < l.length
  · rw [if_pos (by omega), idx_nat h]
    by_cases h2 : l[i] = x
    · rw [if_pos h2]
      exact ⟨l, rfl, fun y => ⟨.inl, fun h => h.elim id fun e => by rw [e, ← h2]; exact List.getElem_mem _⟩, hs⟩
    · rw [if_neg h2, hput]; exact ⟨_, rfl, hmem, hsort fun _ => h2⟩
  · rw [if_neg (by omega), hput]; exact ⟨_, rfl, hmem, hsort fun h' => absurd h' h⟩
structure Has (g : List (List Int)) (n : Nat) (E : Nat → Nat → Prop) : Prop where
  len : g.length = n
  srt : ∀ v (h : v < g.length), g[v].Pairwise (· < ·)
  mem : ∀ v (h : v < g.length) (y : Int), y ∈ g[v] ↔ ∃ u : Nat, y = u ∧ E v u
  rng : ∀ u v, E u v → u < n ∧ v < n ∧ u ≠ v ∧ E v u
theorem rises_of {s : List Int} {n : Nat} (hs : s.Pairwise (· < ·)) (hm : ∀ y ∈ s, 0 ≤ y ∧ y < n) : Rises s n := fun k hk => by
  have := hm _ (List.getElem_mem hk)
  refine ⟨this.1, by omega, fun h => ?_⟩
  exact List.pairwise_iff_getElem.1 hs (k - 1) k (by omega) hk (by omega)
theorem Has.row {g : List (List Int)} {n : Nat} {E : Nat → Nat → Prop} (h : Has g n E) {v : Nat} (hv : v < g.length) : Rises g[v] n :=
  rises_of (h.srt v hv) fun y hy => by
    obtain ⟨u, rfl, hu⟩ := (h.mem v hv y).1 hy
    have := h.rng _ _ hu
    omega
theorem Has.gok {g : List (List Int)} {n : Nat} {E : Nat → Nat → Prop} (h : Has g n E) (h1 : 1 ≤ n) (h16 : n ≤ 16) : GOk g := by
  have hl := h.len
  refine ⟨by omega, by omega, fun v hv => ⟨?_, fun hm => ?_⟩, fun v hv w hw hwl => ?_⟩
  · have := h.row hv; rwa [← hl] at this
  · obtain ⟨u, e, hu⟩ := (h.mem v hv _).1 hm
    have := h.rng _ _ hu; omega
  · obtain ⟨u, rfl, hu⟩ := (h.mem v hv w).1 hw
    simp only [Int.toNat_natCast] at hwl ⊢
    exact (h.mem u hwl _).2 ⟨v, rfl, (h.rng _ _ hu).2.2.2⟩
theorem link_ex {g : List (List Int)} {n : Nat} {E : Nat → Nat → Prop} (h : Has g n E) (h16 : n ≤ 16) {u v : Nat} (hu : u < n) (hv : v < n) (huv : u ≠ v) :
    ∃ g', F_spec_l1Link g (u : Int) (v : Int) = some g' ∧ Has g' n (fun a b => E a b ∨ (a = u ∧ b = v) ∨ (a = v ∧ b = u)) := by
  have hl := h.len
  have hru := (h.row (v := u) (by omega)).len (by omega)
  have hrv := (h.row (v := v) (by omega)).len (by omega)
  obtain ⟨r1, e1, m1, s1⟩ := into_any (l := g[u]) (v : Int) (by omega) (h.srt u (by omega))
  obtain ⟨r2, e2, m2, s2⟩ := into_any (l := g[v]) (u : Int) (by omega) (h.srt v (by omega))
  have hg1 : (g.set u r1).length = n := by simp [hl]
  have hv1 : (g.set u r1)[v]'(by omega) = g[v] := by rw [List.getElem_set_ne (by omega)]
  refine ⟨(g.set u r1).set v r2, ?_, by simp [hl], fun w hw => ?_, fun w hw y => ?_, fun a b hab => ?_⟩
  · unfold F_spec_l1Link
    rw [idx_nat (by omega), cal_of e1, idx_nat (by omega), Int.toNat_natCast, idx_nat (by omega), hv1, cal_of e2, idx_nat (by omega), Int.toNat_natCast]
  · simp only [List.length_set] at hw
    rw [List.getElem_set]
    split
    · exact s2
    · rw [List.getElem_set]
      split
      · exact s1
      · exact h.srt w hw
  · simp only [List.length_set] at hw
    rw [List.getElem_set]
    split
    · rename_i e
      subst e
      rw [m2, h.mem v hw]
      constructor
      · rintro (⟨x, rfl, hx⟩ | e)
        · exact ⟨x, rfl, .inl hx⟩
        · exact ⟨u, e, .inr (.inr ⟨rfl, rfl⟩)⟩
      · rintro ⟨x, rfl, hx | ⟨e, rfl⟩ | ⟨_, rfl⟩⟩
        · exact .inl ⟨x, rfl, hx⟩
        · omega
        · exact .inr rfl
    · rename_i e1
      rw [List.getElem_set]
      split
      · rename_i e
        subst e
        rw [m1, h.mem u hw]
        constructor
        · rintro (⟨x, rfl, hx⟩ | e)
          · exact ⟨x, rfl, .inl hx⟩
          · exact ⟨v, e, .inr (.inl ⟨rfl, rfl⟩)⟩
        · rintro ⟨x, rfl, hx | ⟨_, rfl⟩ | ⟨e, rfl⟩⟩
          · exact .inl ⟨x, rfl, hx⟩
          · exact .inr rfl
          · omega
      · rename_i e2
        rw [h.mem w hw]
        constructor
        · rintro ⟨x, rfl, hx⟩; exact ⟨x, rfl, .inl hx⟩
        · rintro ⟨x, rfl, hx | ⟨e, rfl⟩ | ⟨e, rfl⟩⟩
          · exact ⟨x, rfl, hx⟩
          · omega
          · omega
  · rcases hab with h1 | ⟨rfl, rfl⟩ | ⟨rfl, rfl⟩
    · have := h.rng _ _ h1; exact ⟨this.1, this.2.1, this.2.2.1, .inl this.2.2.2⟩
    · exact ⟨hu, hv, huv, .inr (.inr ⟨rfl, rfl⟩)⟩
    · exact ⟨hv, hu, fun e => huv e.symm, .inr (.inl ⟨rfl, rfl⟩)⟩
theorem has_empty (n : Nat) : Has (List.replicate n []) n (fun _ _ => False) :=
  ⟨by simp, fun v h => by simp, fun v h y => by simp, fun u v h => h.elim⟩
theorem Has.congr {g : List (List Int)} {n : Nat} {E E' : Nat → Nat → Prop} (h : Has g n E) (he : ∀ a b, E a b ↔ E' a b) : Has g n E' :=
  ⟨h.len, h.srt, fun v hv y => by rw [h.mem v hv y]; exact ⟨fun ⟨u, e, q⟩ => ⟨u, e, (he _ _).1 q⟩, fun ⟨u, e, q⟩ => ⟨u, e, (he _ _).2 q⟩⟩, fun u v huv => by
    have := h.rng u v ((he _ _).2 huv); exact ⟨this.1, this.2.1, this.2.2.1, (he _ _).1 this.2.2.2⟩⟩
theorem Has.eq {g g' : List (List Int)} {n : Nat} {E : Nat → Nat → Prop} (h : Has g n E) (h' : Has g' n E) : g = g' := by
  refine List.ext_getElem (by rw [h.len, h'.len]) fun v h1 h2 => ?_
  refine List.Perm.eq_of_pairwise (le := (· < ·)) (fun a b _ _ _ _ => by omega) (h.srt v h1) (h'.srt v h2) ?_
  refine (List.perm_ext_iff_of_nodup ((h.srt v h1).imp fun h => by omega) ((h'.srt v h2).imp fun h => by omega)).2 fun y => ?_
  rw [h.mem v h1, h'.mem v h2]
theorem l1Empty_eqD {n : Nat} (h : n ≤ 1048576) : F_spec_l1Empty (n : Int) = some (List.replicate n []) := by
  unfold F_spec_l1Empty
  have : lp (fun s => F_spec_l1Empty_l1 (n : Int) s.1 s.2) (([] : List (List Int)), 0) = some (.inl (List.replicate n [])) := by
    refine lp_nums n (fun k => List.replicate k []) (fun k hk => ?_) ?_
    · simp only [F_spec_l1Empty_l1]
      rw [if_pos (by omega), app1_s (by simp; omega), ck_of (inI (by omega) (by omega)), List.replicate_succ']; rfl
    · simp only [F_spec_l1Empty_l1]
      rw [if_neg (by omega)]
  rw [bnd_l this]; rfl
end Go.Proofs.YtbefgidkaepmmaaGreatDoor

/- The edges of a graph: listed, counted; sums over all pairs. -/
namespace Go.Proofs.YtbefgidkaepmmaaGreatDoor
theorem rises_els {r : List Int} {n : Nat} (h : Rises r n) (hn : n ≤ 16) : r = ints (els (mk r)) := by
  have hlt : mk r < 2 ^ 16 := Nat.lt_of_lt_of_le h.lt (pow16 hn)
  have e : r.map Int.toNat = els (mk r) := by
    refine sorted_ext ?_ (els_sorted _) fun x => ?_
    · rw [List.pairwise_iff_getElem]
      intro i j hi hj hij
      simp only [List.length_map] at hi hj
      rw [List.getElem_map, List.getElem_map]
      have key : ∀ d i, (hi : i + d + 1 < r.length) → r[i] < r[i + d + 1] := by
        intro d
        induction d with
        | zero => intro i hi; have := (h (i + 1) (by omega)).2.2 (by omega); simpa using this
        | succ d ih => intro i hi; have h1 := ih i (by omega); have h2 := (h (i + (d + 1) + 1) hi).2.2 (by omega); simp only [Nat.add_sub_cancel] at h2; exact Int.lt_trans h1 h2
      obtain ⟨d, rfl⟩ : ∃ d, j = i + d + 1 := ⟨j - i - 1, by omega⟩
      have h1 := key d i hj
      have h2 := (h i hi).1
      omega
    · rw [List.mem_map, mem_els hlt, mk_bit, decide_eq_true_iff]
  unfold ints
  rw [← e, List.map_map]
  conv => lhs; rw [← List.map_id r]
  refine List.map_congr_left fun x hx => ?_
  have := h.mem hx
  simp; omega
theorem row_els {g : List (List Int)} (hg : GOk g) {v : Nat} (h : v < g.length) : g[v] = ints (els (mk g[v])) := rises_els (hg.rows v h).1 hg.n16
theorem nb_get {g : List (List Int)} {v : Nat} (h : v < g.length) : (nb g)[v]'(by rw [nb_len]; exact h) = mk g[v] := by simp [nb]
theorem nb_getD {g : List (List Int)} {v : Nat} (h : v < g.length) : (nb g).getD v 0 = mk g[v] := by rw [getD_get (by rw [nb_len]; exact h), nb_get h]
/-! ## sums -/
def edges (g : List (List Int)) : List (List Int) := (List.range g.length).flatMap fun u => ((g.getD u []).filter fun w => decide ((u : Int) < w)).map fun w => [(u : Int), w]
theorem filter_take_snoc {r : List Int} {p : Int → Bool} {k : Nat} (hk : k < r.length) : (r.take (k + 1)).filter p = (r.take k).filter p ++ (if p r[k] = true then [r[k]] else []) := by
  rw [take_succ_of hk, List.filter_append]; congr 1; by_cases h : p r[k] = true <;> simp [h]
theorem edges_part {g : List (List Int)} (hg : GOk g) : ∀ k, k ≤ g.length → ((List.range k).flatMap fun u => ((g.getD u []).filter fun w => decide ((u : Int) < w)).map fun w => [(u : Int), w]).length ≤ 16 * k
  | 0, _ => by simp
  | k + 1, hk => by
    rw [List.range_succ, List.flatMap_append, List.length_append]
    have h1 := edges_part hg k (by omega)
    have h2 := hg.row_len (v := k) (by omega)
    have h3 : ((g.getD k []).filter fun w => decide ((k : Int) < w)).length ≤ (g.getD k []).length := List.length_filter_le ..
    have e : g.getD k [] = g[k] := by simp [show k < g.length by omega]
    rw [e] at h3
    rw [List.flatMap_cons, List.flatMap_nil, List.append_nil, List.length_map, e]; omega
theorem l1Edges_eq {g : List (List Int)} (hg : GOk g) : F_spec_l1Edges g = some (edges g) := by
  have h16 := hg.n16
  unfold F_spec_l1Edges
  have key := lp_nums (step := fun s => F_spec_l1Edges_l1 g s.1 s.2) g.length (fun k => (List.range k).flatMap fun u => ((g.getD u []).filter fun w => decide ((u : Int) < w)).map fun w => [(u : Int), w]) (o := .inl (edges g)) (fun k hk => ?_) ?_
  · simp only [List.range_zero, List.flatMap_nil] at key
    rw [bnd_l key]; rfl
  · have hb := edges_part hg k (by omega)
    obtain ⟨acc, hacc⟩ : ∃ acc, acc = ((List.range k).flatMap fun u => ((g.getD u []).filter fun w => decide ((u : Int) < w)).map fun w => [(u : Int), w]) := ⟨_, rfl⟩
    rw [← hacc] at hb ⊢
    have hr := hg.row_len hk
    have hgd : g.getD k [] = g[k] := by simp [hk]
    simp only [F_spec_l1Edges_l1, F_spec_l1Size]
    rw [cal_some_eq, if_pos (by omega)]
    have inner := lp_nums (step := fun s => F_spec_l1Edges_l2 g (k : Int) s.1 s.2) g[k].length (fun j => acc ++ ((g[k].take j).filter fun w => decide ((k : Int) < w)).map fun w => [(k : Int), w]) (o := .inl (acc ++ (g[k].filter fun w => decide ((k : Int) < w)).map fun w => [(k : Int), w])) (fun j hj => ?_) ?_
    · simp only [List.take_zero, List.filter_nil, List.map_nil, List.append_nil] at inner
      rw [inner, bnd_inl_eq]
      unfold F_spec_l1Edges_k3
      rw [ck_of (inI (by omega) (by omega)), List.range_succ, List.flatMap_append, ← hacc, List.flatMap_cons, List.flatMap_nil, List.append_nil, hgd]
      rfl
    · have hl : ((g[k].take j).filter fun w => decide ((k : Int) < w)).length ≤ 16 := by
        have := List.length_filter_le (fun w => decide ((k : Int) < w)) (g[k].take j)
        simp at this ⊢; omega
      simp only [F_spec_l1Edges_l2]
      rw [idx_nat hk, if_pos (by omega), idx_nat hk, idx_nat hj, filter_take_snoc hj]
      by_cases h : (k : Int) < g[k][j]
      · rw [if_pos h, idx_nat hk, idx_nat hj, app1_s (by simp; omega), ck_of (inI (by omega) (by omega))]
        simp [h]
      · rw [if_neg h, ck_of (inI (by omega) (by omega))]
        simp [h]
    · simp only [F_spec_l1Edges_l2]
      rw [idx_nat hk, if_neg (by omega), List.take_length]
  · simp only [F_spec_l1Edges_l1, F_spec_l1Size]
    rw [cal_some_eq, if_neg (by omega)]; rfl
end Go.Proofs.YtbefgidkaepmmaaGreatDoor

/- The search for a colouring with few colours: the reference's, vertex by vertex, and the code's, class by class. -/
namespace Go.Proofs.YtbefgidkaepmmaaGreatDoor
section
variable {S O β : Type}
end
def cls (p : List Nat) (c : Nat) : Nat := mk (ints ((List.range p.length).filter fun u => decide (p[u]? = some c)))
def fits (a : List Nat) (p : List Nat) (c : Nat) : Bool := cls p c &&& a.getD p.length 0 == 0
def search (a : List Nat) (k : Nat) : Nat → List Nat → Nat → Option (List Nat)
  | 0, p, _ => some p
  | m + 1, p, u => (List.range (min (u + 1) k)).findSome? fun c => if fits a p c = true then search a k m (p ++ [c]) (max u (c + 1)) else none
def chrom (a : List Nat) : Nat := (List.range (a.length + 1)).findIdx fun k => (search a k a.length [] 0).isSome
def best (a : List Nat) : List Nat := (search a (chrom a) a.length [] 0).getD []
end Go.Proofs.YtbefgidkaepmmaaGreatDoor

/- Right colourings: the search finds one where there is one; a graph without one of its vertices. -/
namespace Go.Proofs.YtbefgidkaepmmaaGreatDoor
def past (v j : Nat) : Nat := if j < v then j else j + 1
def others (n v : Nat) : List Nat := (List.range (n - 1)).map (past v)
end Go.Proofs.YtbefgidkaepmmaaGreatDoor

/- Graphs with an edge or a vertex less. -/
namespace Go.Proofs.YtbefgidkaepmmaaGreatDoor
theorem Has.bit {g : List (List Int)} {n : Nat} {E : Nat → Nat → Prop} (h : Has g n E) {u v : Nat} (hu : u < n) : ((nb g).getD u 0).testBit v = true ↔ E u v := by
  have hl := h.len
  rw [nb_getD (show u < g.length by omega), mk_bit, decide_eq_true_iff]
  constructor
  · rintro ⟨y, hy, rfl⟩
    obtain ⟨w, rfl, hw⟩ := (h.mem u (by omega) y).1 hy
    simpa using hw
  · exact fun he => ⟨v, (h.mem u (by omega) _).2 ⟨v, rfl, he⟩, by simp⟩
def Ed (g : List (List Int)) (u v : Nat) : Prop := u < g.length ∧ ((nb g).getD u 0).testBit v = true
theorem GOk.has {g : List (List Int)} (hg : GOk g) : Has g g.length (Ed g) := by
  have mem : ∀ v (h : v < g.length) (y : Int), y ∈ g[v] ↔ ∃ u : Nat, y = u ∧ Ed g v u := fun v hv y => by
    unfold Ed
    rw [nb_getD hv]
    constructor
    · intro hy
      have hr := hg.row_mem hv hy
      exact ⟨y.toNat, by omega, hv, by rw [mk_bit, decide_eq_true_iff]; exact ⟨y, hy, rfl⟩⟩
    · rintro ⟨u, rfl, _, hu⟩
      rw [mk_bit, decide_eq_true_iff] at hu
      obtain ⟨w, hw, e⟩ := hu
      have := hg.row_mem hv hw
      rwa [show (u : Int) = w by omega]
  refine ⟨rfl, fun v hv => ?_, mem, fun u v huv => ?_⟩
  · rw [row_els hg hv, ints]
    exact List.Pairwise.map _ (fun a b h => by omega) (els_sorted _)
  · have hm := (mem u huv.1 v).2 ⟨v, rfl, huv⟩
    have hr := hg.row_mem huv.1 hm
    have hv : v < g.length := by omega
    refine ⟨huv.1, hv, fun e => ?_, ?_⟩
    · subst e; exact (hg.rows u huv.1).2 hm
    · have := hg.sym u huv.1 v hm (by omega)
      simp only [Int.toNat_natCast] at this
      obtain ⟨w, e, hw⟩ := (mem v hv u).1 this
      rwa [show u = w by omega]
theorem l1CopyGraph_eqG {g : List (List Int)} (hl : g.length ≤ 1048576) (hr : ∀ x ∈ g, x.length ≤ 1048576) : F_spec_l1CopyGraph g = some g := by
  unfold F_spec_l1CopyGraph
  have : lp (fun s => F_spec_l1CopyGraph_l1 g s.1 s.2) (([] : List (List Int)), 0) = some (.inl g) := by
    refine lp_map g (fun x => x) (fun k hk l hkl => ?_) ?_
    · simp only [F_spec_l1CopyGraph_l1]
      rw [if_pos (by omega), idx_nat hk, cal_of (l1Copy_eqD (hr _ (List.getElem_mem hk))), app1_s (by omega), ck_of (inI (by omega) (by omega))]; rfl
    · simp only [F_spec_l1CopyGraph_l1]
      rw [if_neg (by omega), List.map_id']
  rw [bnd_l this]; rfl
theorem l2Without_eq {l : List Int} (x : Int) (hl : l.length ≤ 1048576) : F_spec_l2Without l x = some (l.filter fun y => decide (y ≠ x)) := by
  unfold F_spec_l2Without
  have : lp (fun s => F_spec_l2Without_l1 l x s.1 s.2) (([] : List Int), 0) = some (.inl (l.filter fun y => decide (y ≠ x))) := by
    refine lp_upto (fun k => ((l.take k).filter fun y => decide (y ≠ x), (k : Int))) l.length (by simp) (fun k hk => ?_) ?_
    · simp only [F_spec_l2Without_l1]
      have h1 : ((l.take k).filter fun y => decide (y ≠ x)).length ≤ k := Nat.le_trans (List.length_filter_le ..) (by rw [List.length_take]; omega)
      rw [if_pos (by omega), idx_nat hk, filter_take_snoc hk]
      by_cases h : l[k] ≠ x
      · rw [if_pos h, idx_nat hk, app1_s (by omega), ck_of (inI (by omega) (by omega)), if_pos (by simpa using h)]; rfl
      · rw [if_neg h, ck_of (inI (by omega) (by omega)), if_neg (by simpa using h), List.append_nil]; rfl
    · simp only [F_spec_l2Without_l1]
      rw [if_neg (by omega), List.take_length]
  rw [bnd_l this]; rfl
theorem Has.small {g : List (List Int)} {n : Nat} {E : Nat → Nat → Prop} (h : Has g n E) (h16 : n ≤ 16) : g.length ≤ 1048576 ∧ ∀ x ∈ g, x.length ≤ 16 := by
  have hl := h.len
  refine ⟨by omega, fun x hx => ?_⟩
  obtain ⟨v, hv, rfl⟩ := List.getElem_of_mem hx
  have := (h.row hv).len (by omega); omega
theorem l1There_ex {g : List (List Int)} {u : Nat} (hl : g.length ≤ 16) (hu : u < g.length) : F_spec_l1There g (u : Int) = some true := by
  unfold F_spec_l1There F_spec_l1Size
  rw [cal_some_eq, ck_of (inI (by omega) (by omega)), l1In_eq, cal_some_eq]
  exact congrArg some (decide_eq_true (show (0 : Int) ≤ u ∧ (u : Int) ≤ (g.length : Int) - 1 by omega))
open Classical in
theorem l1Edge_ex {g : List (List Int)} {n : Nat} {E : Nat → Nat → Prop} (h : Has g n E) (h16 : n ≤ 16) {u v : Nat} (hu : u < n) : F_spec_l1Edge g (u : Int) (v : Int) = some (decide (E u v)) := by
  have hl := h.len
  have hs := (h.small h16).2 _ (List.getElem_mem (show u < g.length by omega))
  unfold F_spec_l1Edge
  rw [idx_nat (by omega), l1Has_eq _ _ (by omega), cal_some_eq]
  refine congrArg some (decide_eq_decide.2 ?_)
  rw [h.mem u (by omega)]
  exact ⟨fun ⟨w, e, hw⟩ => by rwa [show v = w by omega], fun he => ⟨v, rfl, he⟩⟩
theorem cut_ex {g : List (List Int)} {n : Nat} {E : Nat → Nat → Prop} (h : Has g n E) (h16 : n ≤ 16) {u v : Nat} (he : E u v) :
    ∃ g', F_spec_CutEdge g (u : Int) (v : Int) = some (g', true) ∧ Has g' n (fun a b => E a b ∧ ¬ (a = u ∧ b = v) ∧ ¬ (a = v ∧ b = u)) := by
  obtain ⟨hu, hv, huv, he2⟩ := h.rng _ _ he
  have hl := h.len
  obtain ⟨hs1, hs2⟩ := h.small h16
  have hg := h.gok (by omega) h16
  have hru := hs2 _ (List.getElem_mem (show u < g.length by omega))
  have hrv := hs2 _ (List.getElem_mem (show v < g.length by omega))
  have hv1 : (g.set u (g[u].filter fun y => decide (y ≠ (v : Int))))[v]'(by simp; omega) = g[v] := by rw [List.getElem_set_ne (by omega)]
  refine ⟨(g.set u (g[u].filter fun y => decide (y ≠ (v : Int)))).set v (g[v].filter fun y => decide (y ≠ (u : Int))), ?_, by simp [hl], fun w hw => ?_, fun w hw y => ?_, fun a b hab => ?_⟩
  · unfold F_spec_CutEdge F_spec_l2Pair
    rw [specGraphOk_eq g fun x hx => by have := hs2 x hx; omega, cal_some_eq, if_pos (by simp [hg]), cal_of (l1There_ex (by omega) (by omega)), if_pos rfl, cal_of (l1There_ex (by omega) (by omega)), if_pos rfl, cal_some_eq, if_neg (by simp; omega), cal_of (l1Edge_ex h h16 hu), if_neg (by simp [he]), cal_of (l1CopyGraph_eqG hs1 fun x hx => by have := hs2 x hx; omega), idx_nat (by omega), cal_of (l2Without_eq _ (by omega)), idx_nat (by omega), Int.toNat_natCast, idx_nat (by simp; omega), hv1, cal_of (l2Without_eq _ (by omega)), idx_nat (by simp; omega), Int.toNat_natCast]
  · simp only [List.length_set] at hw
    rw [List.getElem_set]
    split
    · exact (h.srt v (by omega)).filter _
    · rw [List.getElem_set]
      split
      · exact (h.srt u (by omega)).filter _
      · exact h.srt w hw
  · simp only [List.length_set] at hw
    rw [List.getElem_set]
    split
    · rename_i e
      subst e
      rw [List.mem_filter, h.mem v hw, decide_eq_true_iff]
      constructor
      · rintro ⟨⟨x, rfl, hx⟩, e⟩
        exact ⟨x, rfl, hx, by omega, by omega⟩
      · rintro ⟨x, rfl, hx, h1, h2⟩
        exact ⟨⟨x, rfl, hx⟩, by omega⟩
    · rename_i e1
      rw [List.getElem_set]
      split
      · rename_i e
        subst e
        rw [List.mem_filter, h.mem u hw, decide_eq_true_iff]
        constructor
        · rintro ⟨⟨x, rfl, hx⟩, e⟩
          exact ⟨x, rfl, hx, by omega, by omega⟩
        · rintro ⟨x, rfl, hx, h1, h2⟩
          exact ⟨⟨x, rfl, hx⟩, by omega⟩
      · rename_i e2
        rw [h.mem w hw]
        exact ⟨fun ⟨x, e, hx⟩ => ⟨x, e, hx, by omega, by omega⟩, fun ⟨x, e, hx, _⟩ => ⟨x, e, hx⟩⟩
  · obtain ⟨h1, h2, h3⟩ := hab
    have := h.rng _ _ h1
    exact ⟨this.1, this.2.1, this.2.2.1, this.2.2.2, by omega, by omega⟩
open Classical in
theorem of_ex {g : List (List Int)} {n : Nat} {E : Nat → Nat → Prop} (h : Has g n E) (h16 : n ≤ 16) {L : List Nat} (hL : ∀ x ∈ L, x < n) (hl16 : L.length ≤ 16) :
    ∃ g', F_spec_l2Of g (ints L) = some g' ∧ Has g' L.length (fun i j => i < L.length ∧ j < L.length ∧ E (L.getD i 0) (L.getD j 0)) := by
  have hl := h.len
  have hLn : ∀ i, i < L.length → L.getD i 0 < n := fun i hi => by rw [show L.getD i 0 = L[i] by simp [hi]]; exact hL _ (List.getElem_mem hi)
  have hin : ∀ {β : Type} (i : Nat) (hi : i < L.length) (q : Int → Option β), idx (ints L) (i : Int) q = q (L.getD i 0 : Nat) := fun i hi q => by
    rw [idx_nat (by rw [ints_len]; exact hi), ints_get, show L.getD i 0 = L[i] by simp [hi]]
  have main := lp_ex (step := fun s => F_spec_l2Of_l1 g (ints L) s.1 s.2) (fun (k : Nat) (g' : List (List Int)) => (g', (k : Int))) L.length
    (fun k g' => Has g' L.length (fun i j => i < k ∧ j < k ∧ E (L.getD i 0) (L.getD j 0))) (fun o => ∃ g', o = .inl g' ∧ Has g' L.length (fun i j => i < L.length ∧ j < L.length ∧ E (L.getD i 0) (L.getD j 0))) ?_ ?_ L.length 0 (List.replicate L.length []) (by omega)
    ((has_empty L.length).congr fun a b => by constructor; exact fun h => h.elim; exact fun h => by omega)
  · obtain ⟨o, e, g', rfl, hg'⟩ := main
    refine ⟨g', ?_, hg'⟩
    unfold F_spec_l2Of
    rw [ints_len, cal_of (l1Empty_eqD (by omega))]
    rw [show ((0 : Nat) : Int) = 0 from rfl] at e
    rw [bnd_l e]; rfl
  · intro k g' hk hg'
    have inner := lp_ex (step := fun s => F_spec_l2Of_l2 g (ints L) (k : Int) s.1 s.2) (fun (j : Nat) (g' : List (List Int)) => (g', (j : Int))) k
      (fun j g' => Has g' L.length (fun a b => (a < k ∧ b < k ∧ E (L.getD a 0) (L.getD b 0)) ∨ (a = k ∧ b < j ∧ E (L.getD a 0) (L.getD b 0)) ∨ (b = k ∧ a < j ∧ E (L.getD a 0) (L.getD b 0)))) (fun o => ∃ g', o = .inl g' ∧ Has g' L.length (fun i j => i < k + 1 ∧ j < k + 1 ∧ E (L.getD i 0) (L.getD j 0))) ?_ ?_ k 0 g' (by omega)
      (hg'.congr fun a b => by constructor; exact fun h => .inl h; rintro (h | h | h) <;> first | exact h | omega)
    · obtain ⟨o, e, g2, rfl, hg2⟩ := inner
      refine ⟨g2, ?_, hg2⟩
      simp only [F_spec_l2Of_l1]
      rw [if_pos (by rw [ints_len]; omega)]
      rw [show ((0 : Nat) : Int) = 0 from rfl] at e
      rw [bnd_l e]
      unfold F_spec_l2Of_k3
      rw [ck_of (inI (by omega) (by omega))]; rfl
    · intro j g2 hj hg2
      simp only [F_spec_l2Of_l2]
      rw [if_pos (by omega), hin k hk, hin j (by omega), cal_of (l1Edge_ex h h16 (hLn k hk))]
      by_cases he : E (L.getD k 0) (L.getD j 0)
      · obtain ⟨g3, e3, hg3⟩ := link_ex hg2 hl16 (u := j) (v := k) (by omega) hk (by omega)
        refine ⟨g3, ?_, hg3.congr fun a b => ?_⟩
        · rw [if_pos (decide_eq_true he), cal_of e3, ck_of (inI (by omega) (by omega))]; rfl
        · have he2 := (h.rng _ _ he).2.2.2
          constructor
          · rintro ((h | h | h) | ⟨rfl, rfl⟩ | ⟨rfl, rfl⟩)
            · exact .inl h
            · exact .inr (.inl ⟨h.1, by omega, h.2.2⟩)
            · exact .inr (.inr ⟨h.1, by omega, h.2.2⟩)
            · exact .inr (.inr ⟨rfl, by omega, he2⟩)
            · exact .inr (.inl ⟨rfl, by omega, he⟩)
          · rintro (h | ⟨rfl, h2, h3⟩ | ⟨rfl, h2, h3⟩)
            · exact .inl (.inl h)
            · by_cases e : b = j
              · exact .inr (.inr ⟨rfl, e⟩)
              · exact .inl (.inr (.inl ⟨rfl, by omega, h3⟩))
            · by_cases e : a = j
              · exact .inr (.inl ⟨e, rfl⟩)
              · exact .inl (.inr (.inr ⟨rfl, by omega, h3⟩))
      · refine ⟨g2, ?_, hg2.congr fun a b => ?_⟩
        · rw [if_neg (by rw [decide_eq_true_iff]; exact he), ck_of (inI (by omega) (by omega))]; rfl
        · constructor
          · rintro (h | h | h)
            · exact .inl h
            · exact .inr (.inl ⟨h.1, by omega, h.2.2⟩)
            · exact .inr (.inr ⟨h.1, by omega, h.2.2⟩)
          · rintro (h1 | ⟨rfl, h2, h3⟩ | ⟨rfl, h2, h3⟩)
            · exact .inl h1
            · by_cases e : b = j
              · subst e; exact absurd h3 he
              · exact .inr (.inl ⟨rfl, by omega, h3⟩)
            · by_cases e : a = j
              · subst e; exact absurd (h.rng _ _ h3).2.2.2 he
              · exact .inr (.inr ⟨rfl, by omega, h3⟩)
    · intro g2 hg2
      simp only [F_spec_l2Of_l2]
      rw [if_neg (by omega)]
      refine ⟨_, rfl, g2, rfl, hg2.congr fun a b => ?_⟩
      constructor
      · rintro (h1 | h1 | h1)
        · exact ⟨by omega, by omega, h1.2.2⟩
        · exact ⟨by omega, by omega, h1.2.2⟩
        · exact ⟨by omega, by omega, h1.2.2⟩
      · rintro ⟨h1, h2, h3⟩
        by_cases ea : a = k
        · by_cases eb : b = k
          · subst ea; subst eb; exact absurd rfl (h.rng _ _ h3).2.2.1
          · exact .inr (.inl ⟨ea, by omega, h3⟩)
        · by_cases eb : b = k
          · exact .inr (.inr ⟨eb, by omega, h3⟩)
          · exact .inl ⟨by omega, by omega, h3⟩
  · intro g' hg'
    simp only [F_spec_l2Of_l1]
    rw [if_neg (by rw [ints_len]; omega)]
    exact ⟨_, rfl, g', rfl, hg'⟩
theorem mem_edges {g : List (List Int)} {n : Nat} {E : Nat → Nat → Prop} (h : Has g n E) (e : List Int) : e ∈ edges g ↔ ∃ u v : Nat, e = [(u : Int), (v : Int)] ∧ u < v ∧ E u v := by
  have hl := h.len
  unfold edges
  rw [List.mem_flatMap]
  constructor
  · rintro ⟨u, hu, he⟩
    have hul := List.mem_range.1 hu
    obtain ⟨w, hw, rfl⟩ := List.mem_map.1 he
    obtain ⟨h1, h2⟩ := List.mem_filter.1 hw
    rw [show g.getD u [] = g[u] by simp [hul], h.mem u hul] at h1
    obtain ⟨v, rfl, hv⟩ := h1
    exact ⟨u, v, rfl, by have := of_decide_eq_true h2; omega, hv⟩
  · rintro ⟨u, v, rfl, huv, he⟩
    have hu := (h.rng _ _ he).1
    refine ⟨u, List.mem_range.2 (by omega), List.mem_map.2 ⟨v, List.mem_filter.2 ⟨?_, decide_eq_true (by omega)⟩, rfl⟩⟩
    rw [show g.getD u [] = g[u]'(by omega) by simp [show u < g.length by omega], h.mem u (by omega)]
    exact ⟨v, rfl, he⟩
theorem edgesOf_ex {g : List (List Int)} (hg : GOk g) : F_spec_EdgesOf g = some (edges g) ∧ (edges g).length ≤ 256 := by
  refine ⟨?_, ?_⟩
  · unfold F_spec_EdgesOf
    rw [specGraphOk_eq g fun x hx => by obtain ⟨v, hv, rfl⟩ := List.getElem_of_mem hx; have := hg.row_len hv; omega, cal_some_eq, if_neg (by simp [hg]), cal_of (l1Edges_eq hg)]
  · have := edges_part hg g.length (Nat.le_refl _)
    have := hg.n16
    unfold edges; omega
end Go.Proofs.YtbefgidkaepmmaaGreatDoor

/- Paths: distinct vertices, each a neighbour of the next one. -/
namespace Go.Proofs.YtbefgidkaepmmaaGreatDoor
def PathAt (g : List (List Int)) (l : List Int) (k : Nat) : Prop := (0 ≤ l.getD k 0 ∧ l.getD k 0 < g.length) ∧ l.getD k 0 ∉ l.take k ∧ (0 < k → l.getD (k - 1) 0 ∈ g.getD (l.getD k 0).toNat [])
def IsPath (g : List (List Int)) (l : List Int) : Prop := ∀ k, k < l.length → PathAt g l k
theorem getD_at {l : List Int} {k : Nat} (h : k < l.length) : l.getD k 0 = l[k] := by simp [h]
theorem IsPath.mem {g : List (List Int)} {l : List Int} (h : IsPath g l) {k : Nat} (hk : k < l.length) : 0 ≤ l[k] ∧ l[k] < g.length := by have := (h k hk).1; rwa [getD_at hk] at this
theorem IsPath.ne {g : List (List Int)} {l : List Int} (h : IsPath g l) {j k : Nat} (hj : j < l.length) (hk : k < l.length) (hne : j ≠ k) : l[j] ≠ l[k] := by
  have key : ∀ {j k : Nat} (hj : j < l.length) (hk : k < l.length), j < k → l[j] ≠ l[k] := by
    intro j k hj hk hjk e
    have h1 := (h k hk).2.1
    rw [getD_at hk, ← e] at h1
    exact h1 (List.mem_take_iff_getElem.2 ⟨j, by omega, rfl⟩)
  rcases Nat.lt_or_ge j k with g | g
  · exact key hj hk g
  · exact (key hk hj (by omega)).symm
theorem IsPath.nodup {g : List (List Int)} {l : List Int} (h : IsPath g l) : l.Nodup := List.pairwise_iff_getElem.2 fun i j hi hj hij => h.ne hi hj (by omega)
theorem nodup_len : ∀ {n : Nat} {l : List Int}, l.Nodup → (∀ x ∈ l, 0 ≤ x ∧ x < n) → l.length ≤ n
  | 0, l, hn, h => by
    cases l with
    | nil => simp
    | cons x l => have := h x (List.mem_cons_self ..); omega
  | n + 1, l, hn, h => by
    by_cases hm : (n : Int) ∈ l
    · have h1 := nodup_len (n := n) (hn.erase (n : Int)) (fun x hx => by
        rw [hn.mem_erase_iff] at hx
        have := h x hx.2
        have := hx.1
        omega)
      rw [List.length_erase_of_mem hm] at h1
      omega
    · have := nodup_len (n := n) hn (fun x hx => by
        have h1 := h x hx
        have h2 : x ≠ (n : Int) := fun e => hm (by rw [← e]; exact hx)
        omega)
      omega
theorem IsPath.len {g : List (List Int)} {l : List Int} (h : IsPath g l) : l.length ≤ g.length := nodup_len h.nodup fun x hx => by
  obtain ⟨k, hk, rfl⟩ := List.getElem_of_mem hx
  exact h.mem hk
end Go.Proofs.YtbefgidkaepmmaaGreatDoor

/- Orders of a graph's vertices: sorted, they rise. -/
namespace Go.Proofs.YtbefgidkaepmmaaGreatDoor
def srt (o : List Int) : List Int := o.mergeSort fun x y => decide (x ≤ y)
theorem srt_perm (o : List Int) : (srt o).Perm o := List.mergeSort_perm o _
theorem srt_len (o : List Int) : (srt o).length = o.length := (srt_perm o).length_eq
theorem srt_sorted (o : List Int) : (srt o).Pairwise (· ≤ ·) := by
  have := List.pairwise_mergeSort (le := fun x y : Int => decide (x ≤ y)) (fun a b c h1 h2 => by simp only [decide_eq_true_eq] at *; omega) (fun a b => by simp only [Bool.or_eq_true, decide_eq_true_eq]; omega) o
  exact this.imp fun h => by simpa using h
theorem mem_srt {o : List Int} {x : Int} : x ∈ srt o ↔ x ∈ o := (srt_perm o).mem_iff
theorem pairwise_lt {l : List Int} (h : l.Pairwise (· ≤ ·)) (hn : l.Nodup) : l.Pairwise (· < ·) := by
  have := List.Pairwise.and h hn
  exact this.imp fun h => by omega
def IsOrder (n : Nat) (o : List Int) : Prop := o.length = n ∧ (∀ x ∈ o, 0 ≤ x ∧ x < n) ∧ o.Nodup
theorem rises_iff {s : List Int} {n : Nat} : Rises s n ↔ (∀ x ∈ s, 0 ≤ x ∧ x < n) ∧ s.Pairwise (· < ·) := by
  constructor
  · intro h
    refine ⟨fun x hx => h.mem hx, List.pairwise_iff_getElem.2 ?_⟩
    have key : ∀ d i (hi : i + d + 1 < s.length), s[i] < s[i + d + 1] := by
      intro d
      induction d with
      | zero => intro i hi; have := (h (i + 1) hi).2.2 (by omega); simpa using this
      | succ d ih =>
        intro i hi
        have h1 := ih i (by omega)
        have h2 := (h (i + (d + 1) + 1) hi).2.2 (by omega)
        exact Int.lt_trans h1 h2
    intro i j hi hj hij
    have := key (j - i - 1) i (by omega)
    have e : i + (j - i - 1) + 1 = j := by omega
    simpa only [e] using this
  · rintro ⟨h1, h2⟩ k hk
    have := h1 _ (List.getElem_mem hk)
    exact ⟨this.1, by omega, fun h0 => List.pairwise_iff_getElem.1 h2 (k - 1) k (by omega) hk (by omega)⟩
theorem rises_srt {o : List Int} {n : Nat} : Rises (srt o) n ↔ (∀ x ∈ o, 0 ≤ x ∧ x < n) ∧ o.Nodup := by
  rw [rises_iff]
  constructor
  · rintro ⟨h1, h2⟩
    exact ⟨fun x hx => h1 x (mem_srt.2 hx), (srt_perm o).nodup_iff.1 (h2.imp fun h => by omega)⟩
  · rintro ⟨h1, h2⟩
    exact ⟨fun x hx => h1 x (mem_srt.1 hx), pairwise_lt (srt_sorted o) ((srt_perm o).nodup_iff.2 h2)⟩
theorem sorted_eq {o : List Int} (h : o.length ≤ 1099511627776) : F_slices_Sorted_int64 o = some (srt o) := by
  unfold F_slices_Sorted_int64 F_slices_Collect_int64 F_slices_Sort_int64
  rw [if_pos h, cal_some_eq, if_pos h, cal_some_eq]; rfl
open Classical in
theorem implOrderOk_eq (g : List (List Int)) (o : List Int) (hgl : g.length ≤ 1048576) (hl : ∀ x ∈ g, x.length ≤ 1048576) (ho : o.length ≤ 1048576) : F_impl_OrderOk g o = some (decide (GOk g ∧ IsOrder g.length o)) := by
  unfold F_impl_OrderOk F_slices_Values_int64
  rw [cal_of (implGraphOk_eq g hgl hl)]
  by_cases hg : GOk g
  case neg => rw [if_pos (by simpa using hg)]; exact congrArg some (decide_eq_false (fun h => hg h.1)).symm
  rw [if_neg (by simpa using hg)]
  by_cases h1 : o.length = g.length
  case neg => rw [if_pos (by omega)]; exact congrArg some (decide_eq_false (fun h => h1 h.2.1)).symm
  rw [if_neg (by omega), cal_some_eq, cal_of (sorted_eq (by omega)), cal_of (increasing_eq _ _ (by rw [srt_len]; omega) (by omega) (by omega))]
  congr 1
  rw [decide_eq_decide, rises_srt]
  exact ⟨fun h => ⟨hg, h1, h⟩, fun h => h.2.2⟩
theorem nodup_take {o : List Int} : o.Nodup ↔ ∀ k (h : k < o.length), o[k] ∉ o.take k := by
  constructor
  · intro h k hk hm
    rw [List.mem_take_iff_getElem] at hm
    obtain ⟨j, hj, e⟩ := hm
    exact List.pairwise_iff_getElem.1 h j k (by omega) hk (by omega) e
  · intro h
    refine List.pairwise_iff_getElem.2 fun i j hi hj hij e => h j hj ?_
    rw [List.mem_take_iff_getElem]
    exact ⟨i, by omega, e⟩
open Classical in
theorem l1Order_eq {g : List (List Int)} (hg : GOk g) (o : List Int) (ho : o.length ≤ 1048576) : F_spec_l1Order g o = some (decide (IsOrder g.length o)) := by
  have h16 := hg.n16
  unfold F_spec_l1Order F_spec_l1Size
  rw [cal_some_eq]
  by_cases h1 : o.length = g.length
  case neg => rw [if_pos (by omega)]; exact congrArg some (decide_eq_false (fun h => h1 h.1)).symm
  rw [if_neg (by omega)]
  have key := lp_allC (step := fun s => F_spec_l1Order_l1 g o s) (fun k => (k : Int)) o.length (fun k => ∀ h : k < o.length, (0 ≤ o[k] ∧ o[k] < g.length) ∧ o[k] ∉ o.take k) (IsOrder g.length o) (oT := .inl ()) (oF := .inr false) ?_ ?_ ?_ ?_
  · rw [show ((0 : Nat) : Int) = 0 from rfl] at key
    rw [key, bnd_if]
    unfold F_spec_l1Order_k2
    split
    · rename_i hq; rw [decide_eq_true hq]
    · rename_i hq; rw [decide_eq_false hq]
  · constructor
    · rintro ⟨_, h2, h3⟩ k _ hk
      exact ⟨h2 _ (List.getElem_mem hk), nodup_take.1 h3 k hk⟩
    · intro h
      refine ⟨h1, fun x hx => ?_, nodup_take.2 fun k hk => (h k hk hk).2⟩
      obtain ⟨k, hk, rfl⟩ := List.getElem_of_mem hx
      exact (h k hk hk).1
  · intro k hk _ hp
    obtain ⟨p1, p2⟩ := hp hk
    simp only [F_spec_l1Order_l1, F_spec_l1There, F_spec_l1Size, cal_some_eq]
    rw [if_pos (by omega), idx_nat hk, ck_of (inI (by omega) (by omega)), l1In_eq, cal_some_eq, cal_some_eq, if_neg (by simp; omega), slc_of ⟨by decide, by omega, by omega⟩, idx_nat hk, show (0 : Int).toNat = 0 from rfl, List.drop_zero, Int.toNat_natCast, Nat.sub_zero, cal_of (l1Has_eq _ _ (by rw [List.length_take]; omega)), if_neg (by simpa using p2), ck_of (inI (by omega) (by omega))]; rfl
  · intro k hk _ hp
    simp only [F_spec_l1Order_l1, F_spec_l1There, F_spec_l1Size, cal_some_eq]
    rw [if_pos (by omega), idx_nat hk, ck_of (inI (by omega) (by omega)), l1In_eq, cal_some_eq, cal_some_eq]
    by_cases h2 : 0 ≤ o[k] ∧ o[k] ≤ (g.length : Int) - 1
    case neg => rw [if_pos (by simpa using h2)]
    have p2 : o[k] ∈ o.take k := Classical.byContradiction fun h => hp fun _ => ⟨⟨h2.1, by omega⟩, h⟩
    rw [if_neg (by simpa using h2), slc_of ⟨by decide, by omega, by omega⟩, idx_nat hk, show (0 : Int).toNat = 0 from rfl, List.drop_zero, Int.toNat_natCast, Nat.sub_zero, cal_of (l1Has_eq _ _ (by rw [List.length_take]; omega)), if_pos (by simpa using p2)]
  · intro _
    simp only [F_spec_l1Order_l1]
    rw [if_neg (by omega)]
open Classical in
theorem specOrderOk_eq (g : List (List Int)) (o : List Int) (hgl : g.length ≤ 1048576) (hl : ∀ x ∈ g, x.length ≤ 1048576) (ho : o.length ≤ 1048576) : F_spec_OrderOk g o = some (decide (GOk g ∧ IsOrder g.length o)) := by
  unfold F_spec_OrderOk
  rw [cal_of (specGraphOk_eq g hl)]
  by_cases hg : GOk g
  case neg => rw [if_neg (by simpa using hg)]; exact congrArg some (decide_eq_false (fun h => hg h.1)).symm
  rw [if_pos (by simpa using hg), cal_of (l1Order_eq hg o ho)]
  congr 1
  rw [decide_eq_decide]
  exact ⟨fun h => ⟨hg, h⟩, fun h => h.2⟩
def RingIs (g : List (List Int)) (o : List Int) : Prop := (GOk g ∧ IsOrder g.length o) ∧ o.getD 0 0 = 0
theorem order_pos {g : List (List Int)} {o : List Int} (h : GOk g ∧ IsOrder g.length o) : 0 < o.length := by have := h.1.n1; have := h.2.1; omega
theorem idx_zero {β : Type} {o : List Int} (h : 0 < o.length) (q : Int → Option β) : idx o 0 q = q (o.getD 0 0) := by
  rw [show (0 : Int) = ((0 : Nat) : Int) from rfl, idx_nat h]; simp [h]
open Classical in
theorem implRingOk_eq (g : List (List Int)) (o : List Int) (hgl : g.length ≤ 1048576) (hl : ∀ x ∈ g, x.length ≤ 1048576) (ho : o.length ≤ 1048576) : F_impl_RingOk g o = some (decide (RingIs g o)) := by
  unfold F_impl_RingOk
  rw [cal_of (implOrderOk_eq g o hgl hl ho)]
  by_cases h : GOk g ∧ IsOrder g.length o
  case neg => rw [if_neg (by simpa using h)]; exact congrArg some (decide_eq_false (fun k => h k.1)).symm
  rw [if_pos (by simpa using h), idx_zero (order_pos h)]
  congr 1
  rw [decide_eq_decide]
  exact ⟨fun k => ⟨h, k⟩, fun k => k.2⟩
open Classical in
theorem specRingOk_eq (g : List (List Int)) (o : List Int) (hgl : g.length ≤ 1048576) (hl : ∀ x ∈ g, x.length ≤ 1048576) (ho : o.length ≤ 1048576) : F_spec_RingOk g o = some (decide (RingIs g o)) := by
  unfold F_spec_RingOk
  rw [cal_of (specOrderOk_eq g o hgl hl ho)]
  by_cases h : GOk g ∧ IsOrder g.length o
  case neg => rw [if_neg (by simpa using h)]; exact congrArg some (decide_eq_false (fun k => h k.1)).symm
  rw [if_pos (by simpa using h), idx_zero (order_pos h)]
  congr 1
  rw [decide_eq_decide]
  exact ⟨fun k => ⟨h, k⟩, fun k => k.2⟩
end Go.Proofs.YtbefgidkaepmmaaGreatDoor

/- Matchings: which lists of edges are one. -/
namespace Go.Proofs.YtbefgidkaepmmaaGreatDoor
def EdgeOk (g : List (List Int)) (e : List Int) : Prop := e.length = 2 ∧ e.getD 0 0 < e.getD 1 0 ∧ 0 ≤ e.getD 0 0 ∧ e.getD 0 0 < g.length ∧ e.getD 1 0 ∈ g.getD (e.getD 0 0).toNat []
theorem EdgeOk.two {g : List (List Int)} {e : List Int} (h : EdgeOk g e) : ∃ x y : Nat, e = [(x : Int), (y : Int)] ∧ x < y ∧ ∃ hx : x < g.length, (y : Int) ∈ g[x] := by
  obtain ⟨h1, h2, h3, h4, h5⟩ := h
  match e, h1 with
  | [a, b], _ =>
    simp only [List.getD_cons_zero, List.getD_cons_succ] at h2 h3 h4 h5
    obtain ⟨x, rfl⟩ := Int.eq_ofNat_of_zero_le h3
    obtain ⟨y, rfl⟩ := Int.eq_ofNat_of_zero_le (by omega : 0 ≤ b)
    have hx : x < g.length := by omega
    refine ⟨x, y, rfl, by omega, hx, ?_⟩
    simpa [hx] using h5
open Classical in
theorem specEdgeIn_eq {g : List (List Int)} (hg : GOk g) (hl : ∀ x ∈ g, x.length ≤ 1048576) (u v : Int) : F_spec_EdgeIn g u v = some (decide (0 ≤ u ∧ u < g.length ∧ v ∈ g.getD u.toNat [])) := by
  have h16 := hg.n16
  unfold F_spec_EdgeIn F_spec_l1There F_spec_l1Size F_spec_l1Edge
  simp only [cal_some_eq]
  rw [cal_of (specGraphOk_eq g hl), if_pos (by simp [hg]), ck_of (inI (by omega) (by omega)), l1In_eq, cal_some_eq, cal_some_eq]
  by_cases hu : 0 ≤ u ∧ u ≤ (g.length : Int) - 1
  case neg =>
    rw [if_neg (by simpa using hu), decide_eq_false]
    intro h; exact hu ⟨h.1, by omega⟩
  rw [if_pos (by simpa using hu)]
  obtain ⟨m, rfl⟩ := Int.eq_ofNat_of_zero_le hu.1
  have hm : m < g.length := by omega
  have e : g.getD (m : Int).toNat [] = g[m] := by simp [hm]
  rw [e, ck_of (inI (by omega) (by omega)), l1In_eq, cal_some_eq, cal_some_eq]
  by_cases hv : 0 ≤ v ∧ v ≤ (g.length : Int) - 1
  case neg =>
    rw [if_neg (by simpa using hv), decide_eq_false]
    intro h; have := hg.row_mem hm h.2.2; exact hv ⟨this.1, by omega⟩
  have := hl _ (List.getElem_mem hm)
  rw [if_pos (by simpa using hv), idx_nat hm, cal_of (l1Has_eq _ _ (by omega))]
  simp [hm]
open Classical in
theorem isEdge_eq {g : List (List Int)} (hg : GOk g) (hgl : g.length ≤ 1048576) (hl : ∀ x ∈ g, x.length ≤ 1048576) (e : List Int) : F_impl_isEdge g e = some (decide (EdgeOk g e)) := by
  have h16 := hg.n16
  unfold F_impl_isEdge F_impl_EdgeIn F_impl_isVertex EdgeOk
  by_cases h2 : e.length = 2
  case neg => rw [if_neg (by omega)]; simp [h2]
  rw [if_pos (by omega)]
  match e, h2 with
  | [a, b], _ =>
    have i0 : ∀ {β : Type} (k : Int → Option β), idx [a, b] 0 k = k a := fun k => idx_of (by decide) rfl
    have i1 : ∀ {β : Type} (k : Int → Option β), idx [a, b] 1 k = k b := fun k => idx_of (by decide) rfl
    rw [i0, i1]
    by_cases hab : a < b
    case neg => rw [if_neg hab]; simp [hab]
    rw [if_pos hab, i0, i1, cal_of (implGraphOk_eq g hgl hl), if_pos (by simp [hg]), ck_of (inI (by omega) (by omega)), cal_of (inRange_eq _ _ _), cal_some_eq]
    by_cases hu : 0 ≤ a ∧ a ≤ (g.length : Int) - 1
    case neg =>
      rw [if_neg (by simpa using hu), cal_some_eq]
      refine congrArg some ?_
      rw [eq_comm, decide_eq_false_iff_not]
      intro h; simp at h; exact hu ⟨h.2.1, by omega⟩
    rw [if_pos (by simpa using hu)]
    obtain ⟨m, rfl⟩ := Int.eq_ofNat_of_zero_le hu.1
    have hm : m < g.length := by omega
    have := hl _ (List.getElem_mem hm)
    rw [idx_nat hm, cal_of (contains_eq _ _ (by omega)), cal_some_eq]
    simp [hm, hab]
end Go.Proofs.YtbefgidkaepmmaaGreatDoor

/- Rings: chords that cross. -/
namespace Go.Proofs.YtbefgidkaepmmaaGreatDoor
theorem rset {n w : Nat} {f f' : Nat → Int} {y : Int} (hw : w < n) (h1 : f' w = y) (h2 : ∀ v, v ≠ w → f' v = f v) : ((List.range n).map f).set w y = (List.range n).map f' := by
  apply List.ext_getElem
  · simp
  · intro v h3 h4
    simp only [List.length_map, List.length_range] at h4
    rw [List.getElem_set]
    by_cases e : w = v
    · subst e; rw [if_pos rfl]; simp [h1]
    · rw [if_neg e]; simp [h2 v (fun h => e h.symm)]
theorem ridx {β : Type} {n w : Nat} {f : Nat → Int} {q : Int → Option β} (hw : w < n) : idx ((List.range n).map f) (w : Int) q = q (f w) := by
  rw [idx_nat (by simp; exact hw)]; simp
def placesOf (n : Nat) (o : List Int) : List Int := (List.range n).map fun (v : Nat) => (o.idxOf (v : Int) : Int)
def placesTo (n : Nat) (o : List Int) (k : Nat) : List Int := (List.range n).map fun (v : Nat) => if (v : Int) ∈ o.take k then (o.idxOf (v : Int) : Int) else 0
theorem order_mem {n : Nat} {o : List Int} (h : IsOrder n o) {v : Nat} (hv : v < n) : (v : Int) ∈ o := by
  refine Classical.byContradiction fun hn => ?_
  have h1 : ((v : Int) :: o).Nodup := List.nodup_cons.2 ⟨hn, h.2.2⟩
  have h2 := nodup_len (n := n) h1 (fun x hx => by
    rcases List.mem_cons.1 hx with e | e
    · omega
    · exact h.2.1 x e)
  rw [List.length_cons, h.1] at h2
  omega
theorem placesTo_all {n : Nat} {o : List Int} (h : IsOrder n o) : placesTo n o o.length = placesOf n o := by
  unfold placesTo placesOf
  refine List.map_congr_left fun v hv => ?_
  rw [List.take_length, if_pos (order_mem h (List.mem_range.1 hv))]
theorem placesTo_zero (n : Nat) (o : List Int) : placesTo n o 0 = List.replicate n 0 := by
  unfold placesTo
  apply List.ext_getElem <;> simp
theorem placesTo_set {n : Nat} {o : List Int} (h : IsOrder n o) {k : Nat} (hk : k < o.length) : (placesTo n o k).set (o[k]).toNat (k : Int) = placesTo n o (k + 1) := by
  have hb := h.2.1 _ (List.getElem_mem hk)
  obtain ⟨w, hw⟩ := Int.eq_ofNat_of_zero_le hb.1
  unfold placesTo
  rw [hw, Int.toNat_natCast]
  refine rset (by omega) ?_ fun v hv => ?_
  · rw [if_pos (by rw [take_succ_of hk, hw]; simp), ← hw, h.2.2.idxOf_getElem k hk]
  · have : (v : Int) ∈ o.take (k + 1) ↔ (v : Int) ∈ o.take k := by
      rw [take_succ_of hk, List.mem_append, List.mem_singleton, hw]
      exact ⟨fun h => h.elim id fun e => absurd (by omega) hv, .inl⟩
    simp only [this]
theorem place_inj {n : Nat} {o : List Int} (h : IsOrder n o) {u v : Nat} (hu : u < n) (hv : v < n) : o.idxOf (u : Int) = o.idxOf (v : Int) ↔ u = v := by
  constructor
  · intro e
    have h1 := order_mem h hu
    have h2 := order_mem h hv
    have h3 := List.getElem_idxOf (List.idxOf_lt_length_of_mem h1)
    have h4 := List.getElem_idxOf (List.idxOf_lt_length_of_mem h2)
    simp only [e] at h3
    have h5 := h3.symm.trans h4
    omega
  · rintro rfl; rfl
theorem l24Places_eq {n : Nat} {o : List Int} (h : IsOrder n o) (hn : n ≤ 16) : F_spec_l24Places o = some (placesOf n o) := by
  unfold F_spec_l24Places
  have hl := h.1
  have key : lp (fun s => F_spec_l24Places_l1 o s.1 s.2) (List.replicate n (0 : Int), 0) = some (.inl (placesOf n o)) := by
    refine lp_upto (fun k => (placesTo n o k, (k : Int))) o.length (by rw [placesTo_zero]; rfl) (fun k hk => ?_) ?_
    · have hb := h.2.1 _ (List.getElem_mem hk)
      obtain ⟨w, hw⟩ := Int.eq_ofNat_of_zero_le hb.1
      have hs := placesTo_set h hk
      simp only [F_spec_l24Places_l1]
      rw [if_pos (by omega), idx_nat hk, ← hs]
      unfold placesTo
      rw [hw, ridx (by omega), ck_of (inI (by omega) (by omega))]; rfl
    · simp only [F_spec_l24Places_l1]
      rw [if_neg (by omega), placesTo_all h]
  rw [mkS_of (by omega) (by unfold lim; omega), hl, Int.toNat_natCast, bnd_l key]; rfl
theorem placesIn_eq {n : Nat} {o : List Int} (h : IsOrder n o) (h1 : 1 ≤ n) (hn : n ≤ 16) : F_impl_placesIn o = some (placesOf n o, true) := by
  unfold F_impl_placesIn F_slices_Values_int64
  have hl := h.1
  have key : lp (fun s => F_impl_placesIn_l1 o s.1 s.2) (List.replicate n (0 : Int), 0) = some (.inl (placesOf n o)) := by
    refine lp_upto (fun k => (placesTo n o k, (k : Int))) o.length (by rw [placesTo_zero]; rfl) (fun k hk => ?_) ?_
    · have hb := h.2.1 _ (List.getElem_mem hk)
      obtain ⟨w, hw⟩ := Int.eq_ofNat_of_zero_le hb.1
      have hs := placesTo_set h hk
      simp only [F_impl_placesIn_l1]
      rw [if_pos (by omega), idx_nat hk, ← hs]
      unfold placesTo
      rw [hw, ridx (by omega), ck_of (inI (by omega) (by omega))]; rfl
    · simp only [F_impl_placesIn_l1]
      rw [if_neg (by omega), placesTo_all h]
  have hr : Rises (srt o) n := rises_srt.2 h.2
  rw [if_neg (by omega), if_neg (by omega), cal_some_eq, cal_of (sorted_eq (by omega)), hl, cal_of (increasing_eq _ _ (by rw [srt_len]; omega) (by omega) (by omega)), if_neg (by simpa using hr), mkS_of (by omega) (by unfold lim; omega), Int.toNat_natCast, bnd_l key]; rfl
def CrossP (x y z w : Int) : Prop := (min x y < min z w ∧ min z w < max x y ∧ max x y < max z w) ∨ (min z w < min x y ∧ min x y < max z w ∧ max z w < max x y)
def Crosses (o : List Int) (e f : List Int) : Prop := CrossP (o.idxOf (e.getD 0 0)) (o.idxOf (e.getD 1 0)) (o.idxOf (f.getD 0 0)) (o.idxOf (f.getD 1 0))
theorem min_if (a b : Int) : (if a < b then some a else some b) = some (min a b) := by split <;> (congr 1; omega)
theorem max_if (a b : Int) : (if b < a then some a else some b) = some (max a b) := by split <;> (congr 1; omega)
def Pair (n : Nat) (e : List Int) : Prop := ∃ a b : Nat, e = [(a : Int), (b : Int)] ∧ a < b ∧ b < n
open Classical in
theorem l24Cross_eq {n : Nat} {o : List Int} (h : IsOrder n o) {e f : List Int} (he : Pair n e) (hf : Pair n f) : F_spec_l24Cross (placesOf n o) e f = some (decide (Crosses o e f)) := by
  obtain ⟨a, b, rfl, hab, hb⟩ := he
  obtain ⟨c, d, rfl, hcd, hd⟩ := hf
  have P : ∀ {β : Type} (v : Nat) (hv : v < n) (q : Int → Option β), idx (placesOf n o) (v : Int) q = q (o.idxOf (v : Int)) := fun v hv q => by unfold placesOf; exact ridx hv
  have i0 : ∀ {β : Type} (x y : Int) (k : Int → Option β), idx [x, y] 0 k = k x := fun x y k => idx_of (by decide) rfl
  have i1 : ∀ {β : Type} (x y : Int) (k : Int → Option β), idx [x, y] 1 k = k y := fun x y k => idx_of (by decide) rfl
  have ha : a < n := by omega
  have hc : c < n := by omega
  unfold F_spec_l24Cross F_spec_l1Min F_spec_l1Max
  simp only [i0, i1, P a ha, P b hb, P c hc, P d hd, min_if, max_if, cal_some_eq]
  unfold Crosses CrossP
  simp only [List.getD_cons_zero, List.getD_cons_succ]
  generalize (o.idxOf (a : Int) : Int) = x
  generalize (o.idxOf (b : Int) : Int) = y
  generalize (o.idxOf (c : Int) : Int) = z
  generalize (o.idxOf (d : Int) : Int) = w
  repeat' split
  all_goals (congr 1; symm; first | (rw [decide_eq_true_iff]; omega) | (rw [decide_eq_false_iff_not]; omega) | (rw [decide_eq_decide]; omega))
open Classical in
theorem alternate_eq {n : Nat} {o : List Int} (h : IsOrder n o) {e f : List Int} (he : Pair n e) (hf : Pair n f) : F_impl_alternate (placesOf n o) e f = some (decide (Crosses o e f)) := by
  obtain ⟨a, b, rfl, hab, hb⟩ := he
  obtain ⟨c, d, rfl, hcd, hd⟩ := hf
  have P : ∀ {β : Type} (v : Nat) (hv : v < n) (q : Int → Option β), idx (placesOf n o) (v : Int) q = q (o.idxOf (v : Int)) := fun v hv q => by unfold placesOf; exact ridx hv
  have i0 : ∀ {β : Type} (x y : Int) (k : Int → Option β), idx [x, y] 0 k = k x := fun x y k => idx_of (by decide) rfl
  have i1 : ∀ {β : Type} (x y : Int) (k : Int → Option β), idx [x, y] 1 k = k y := fun x y k => idx_of (by decide) rfl
  have ha : a < n := by omega
  have hc : c < n := by omega
  have B : ∀ (v : Nat) (hv : v < n) (s t : Int), F_impl_alternate_1 (v : Int) s (placesOf n o) t = some (decide (s < (o.idxOf (v : Int) : Int) ∧ (o.idxOf (v : Int) : Int) < t)) := by
    intro v hv s t
    unfold F_impl_alternate_1
    rw [P v hv]
    by_cases h1 : s < (o.idxOf (v : Int) : Int)
    · rw [if_pos h1, P v hv]; simp [h1]
    · rw [if_neg h1]; simp [h1]
  have n1 := place_inj h ha hb
  have n2 := place_inj h hc hd
  have m1 := place_inj h ha hc
  have m2 := place_inj h ha hd
  have m3 := place_inj h hb hc
  have m4 := place_inj h hb hd
  unfold F_impl_alternate
  simp only [i0, i1, P a ha, P b hb, B c hc, B d hd, cal_some_eq]
  unfold Crosses CrossP
  simp only [List.getD_cons_zero, List.getD_cons_succ]
  generalize o.idxOf (a : Int) = x at *
  generalize o.idxOf (b : Int) = y at *
  generalize o.idxOf (c : Int) = z at *
  generalize o.idxOf (d : Int) = w at *
  by_cases p1 : a = c
  · rw [if_neg (by omega)]; congr 1; symm; rw [decide_eq_false_iff_not]; have := m1.2 p1; omega
  rw [if_pos (by omega)]
  by_cases p2 : a = d
  · rw [if_neg (by omega)]; congr 1; symm; rw [decide_eq_false_iff_not]; have := m2.2 p2; omega
  rw [if_pos (by omega)]
  by_cases p3 : b = c
  · rw [if_neg (by omega)]; congr 1; symm; rw [decide_eq_false_iff_not]; have := m3.2 p3; omega
  rw [if_pos (by omega)]
  by_cases p4 : b = d
  · rw [if_neg (by omega)]; congr 1; symm; rw [decide_eq_false_iff_not]; have := m4.2 p4; omega
  rw [if_pos (by omega)]
  have q0 : x ≠ y := fun e => by have := n1.1 e; omega
  have q1 : z ≠ w := fun e => by have := n2.1 e; omega
  have q2 : x ≠ z := fun e => p1 (m1.1 e)
  have q3 : x ≠ w := fun e => p2 (m2.1 e)
  have q4 : y ≠ z := fun e => p3 (m3.1 e)
  have q5 : y ≠ w := fun e => p4 (m4.1 e)
  clear n1 n2 m1 m2 m3 m4 P B i0 i1
  congr 1
  rw [Bool.eq_iff_iff, decide_eq_true_iff]
  by_cases r1 : min (x : Int) y < z ∧ (z : Int) < max (x : Int) y
  · by_cases r2 : min (x : Int) y < w ∧ (w : Int) < max (x : Int) y
    · rw [decide_eq_true r1, decide_eq_true r2]; simp only [bne_self_eq_false, Bool.false_eq_true, false_iff]; omega
    · rw [decide_eq_true r1, decide_eq_false r2]; simp only [bne_iff_ne, ne_eq, Bool.true_eq_false, not_false_eq_true, true_iff]; omega
  · by_cases r2 : min (x : Int) y < w ∧ (w : Int) < max (x : Int) y
    · rw [decide_eq_false r1, decide_eq_true r2]; simp only [bne_iff_ne, ne_eq, Bool.false_eq_true, not_false_eq_true, true_iff]; omega
    · rw [decide_eq_false r1, decide_eq_false r2]; simp only [bne_self_eq_false, Bool.false_eq_true, false_iff]; omega
theorem EdgeOk.pair {g : List (List Int)} (hg : GOk g) {e : List Int} (h : EdgeOk g e) : Pair g.length e := by
  obtain ⟨x, y, rfl, h1, hx, h2⟩ := h.two
  have := hg.row_mem hx h2
  exact ⟨x, y, rfl, h1, by omega⟩
open Classical in
theorem l24Edge_eq {g : List (List Int)} (hg : GOk g) (hl : ∀ x ∈ g, x.length ≤ 1048576) (e : List Int) : F_spec_l24Edge g e = some (decide (EdgeOk g e)) := by
  unfold F_spec_l24Edge EdgeOk
  by_cases h2 : e.length = 2
  case neg => rw [if_neg (by omega)]; simp [h2]
  rw [if_pos (by omega)]
  match e, h2 with
  | [a, b], _ =>
    have i0 : ∀ {β : Type} (k : Int → Option β), idx [a, b] 0 k = k a := fun k => idx_of (by decide) rfl
    have i1 : ∀ {β : Type} (k : Int → Option β), idx [a, b] 1 k = k b := fun k => idx_of (by decide) rfl
    rw [i0, i1]
    by_cases hab : a < b
    case neg => rw [if_neg hab]; simp [hab]
    rw [if_pos hab, i0, i1, cal_of (specEdgeIn_eq hg hl a b)]
    congr 1
    rw [decide_eq_decide]
    simp [hab]
theorem edgesOf_eq {g : List (List Int)} (hg : GOk g) : F_impl_edgesOf g = some (edges g) := by
  have h16 := hg.n16
  unfold F_impl_edgesOf
  have key := lp_nums (step := fun s => F_impl_edgesOf_l1 g s.1 s.2) g.length (fun k => (List.range k).flatMap fun u => ((g.getD u []).filter fun w => decide ((u : Int) < w)).map fun w => [(u : Int), w]) (o := .inl (edges g)) (fun k hk => ?_) ?_
  · simp only [List.range_zero, List.flatMap_nil] at key
    rw [bnd_l key]; rfl
  · have hb := edges_part hg k (by omega)
    obtain ⟨acc, hacc⟩ : ∃ acc, acc = ((List.range k).flatMap fun u => ((g.getD u []).filter fun w => decide ((u : Int) < w)).map fun w => [(u : Int), w]) := ⟨_, rfl⟩
    rw [← hacc] at hb ⊢
    have hr := hg.row_len hk
    have hgd : g.getD k [] = g[k] := by simp [hk]
    simp only [F_impl_edgesOf_l1]
    rw [if_pos (by omega), idx_nat hk]
    have inner := lp_nums (step := fun s => F_impl_edgesOf_l2 (k : Int) g[k] s.1 s.2) g[k].length (fun j => acc ++ ((g[k].take j).filter fun w => decide ((k : Int) < w)).map fun w => [(k : Int), w]) (o := .inl (acc ++ (g[k].filter fun w => decide ((k : Int) < w)).map fun w => [(k : Int), w])) (fun j hj => ?_) ?_
    · simp only [List.take_zero, List.filter_nil, List.map_nil, List.append_nil] at inner
      rw [inner, bnd_inl_eq]
      unfold F_impl_edgesOf_k3
      rw [ck_of (inI (by omega) (by omega)), List.range_succ, List.flatMap_append, ← hacc, List.flatMap_cons, List.flatMap_nil, List.append_nil, hgd]
      rfl
    · have hl : ((g[k].take j).filter fun w => decide ((k : Int) < w)).length ≤ 16 := by
        have := List.length_filter_le (fun w => decide ((k : Int) < w)) (g[k].take j)
        simp at this ⊢; omega
      simp only [F_impl_edgesOf_l2]
      rw [if_pos (by omega), idx_nat hj, filter_take_snoc hj]
      by_cases h : (k : Int) < g[k][j]
      · rw [if_pos h, app1_s (by simp; omega), ck_of (inI (by omega) (by omega))]
        simp [h]
      · rw [if_neg h, ck_of (inI (by omega) (by omega))]
        simp [h]
    · simp only [F_impl_edgesOf_l2]
      rw [if_neg (by omega), List.take_length]
  · simp only [F_impl_edgesOf_l1]
    rw [if_neg (by omega)]; rfl
theorem edges_pair {g : List (List Int)} (hg : GOk g) {e : List Int} (h : e ∈ edges g) : Pair g.length e := by
  unfold edges at h
  rw [List.mem_flatMap] at h
  obtain ⟨u, hu, h⟩ := h
  rw [List.mem_range] at hu
  rw [List.mem_map] at h
  obtain ⟨w, hw, rfl⟩ := h
  rw [List.mem_filter, decide_eq_true_iff, show g.getD u [] = g[u] by simp [hu]] at hw
  have := hg.row_mem hu hw.1
  obtain ⟨v, rfl⟩ := Int.eq_ofNat_of_zero_le this.1
  exact ⟨u, v, rfl, by omega, by omega⟩
theorem edges_len256 {g : List (List Int)} (hg : GOk g) : (edges g).length ≤ 256 := by
  have := edges_part hg g.length (Nat.le_refl _)
  have := hg.n16
  unfold edges; omega
open Classical in
noncomputable def cross1 (o : List Int) (E : List (List Int)) (i k : Nat) : Nat := ((List.range k).filter fun j => decide (Crosses o (E.getD i []) (E.getD j []))).length
noncomputable def crossN (o : List Int) (E : List (List Int)) : Nat → Nat
  | 0 => 0
  | i + 1 => crossN o E i + cross1 o E i i
theorem cross1_le (o : List Int) (E : List (List Int)) (i k : Nat) : cross1 o E i k ≤ k := by unfold cross1; exact Nat.le_trans (List.length_filter_le ..) (by simp)
theorem crossN_le (o : List Int) (E : List (List Int)) : ∀ i, crossN o E i ≤ i * i
  | 0 => Nat.le_refl _
  | i + 1 => by
    have h1 := crossN_le o E i
    have h2 := cross1_le o E i i
    show crossN o E i + cross1 o E i i ≤ _
    rw [Nat.add_mul, Nat.one_mul, Nat.mul_add, Nat.mul_one]; omega
theorem crossN_zero (o : List Int) (E : List (List Int)) (i : Nat) : cross1 o E i 0 = 0 := by unfold cross1; simp
theorem crossN_succ (o : List Int) (E : List (List Int)) (i : Nat) : crossN o E (i + 1) = crossN o E i + cross1 o E i i := rfl
open Classical in
theorem cross1_succ (o : List Int) (E : List (List Int)) (i k : Nat) : cross1 o E i (k + 1) = cross1 o E i k + if Crosses o (E.getD i []) (E.getD k []) then 1 else 0 := by
  unfold cross1
  rw [List.range_succ, List.filter_append, List.length_append]
  congr 1
  split
  · rename_i h; rw [List.filter_cons, if_pos (by rw [decide_eq_true_iff]; exact h)]; rfl
  · rename_i h; rw [List.filter_cons, if_neg (by rw [decide_eq_true_iff]; exact h)]; rfl
noncomputable def crossings (o : List Int) (E : List (List Int)) : Nat := crossN o E E.length
section
variable {n : Nat} {o : List Int} {E : List (List Int)}
theorem l24Crossings_eq (h : IsOrder n o) (hn : n ≤ 16) (hE : ∀ e ∈ E, Pair n e) (hl : E.length ≤ 256) : F_spec_l24Crossings E o = some (crossings o E : Int) := by
  unfold F_spec_l24Crossings
  rw [cal_of (l24Places_eq h hn)]
  have eD : ∀ k (hk : k < E.length), E.getD k [] = E[k] := fun k hk => by simp [hk]
  have key : lp (fun s => F_spec_l24Crossings_l1 E (placesOf n o) s.1 s.2) (0, 0) = some (.inl (crossings o E : Int)) := by
    refine lp_upto (fun i => ((crossN o E i : Int), (i : Int))) E.length rfl (fun i hi => ?_) ?_
    · simp only [F_spec_l24Crossings_l1]
      have b1 := crossN_le o E i
      have b0 : i * i ≤ 256 * 256 := Nat.mul_le_mul (by omega) (by omega)
      have inner : lp (fun s => F_spec_l24Crossings_l2 E (placesOf n o) (i : Int) s.1 s.2) ((crossN o E i : Int), 0) = some (.inl (crossN o E (i + 1) : Int)) := by
        refine lp_upto (fun k => (((crossN o E i + cross1 o E i k : Nat) : Int), (k : Int))) i (by rw [crossN_zero]; rfl) (fun k hk => ?_) ?_
        · simp only [F_spec_l24Crossings_l2]
          have b2 := cross1_le o E i k
          have hki : k < E.length := by omega
          rw [if_pos (by omega), idx_nat hi, idx_nat hki, cal_of (l24Cross_eq h (hE _ (List.getElem_mem hi)) (hE _ (List.getElem_mem hki)))]
          unfold F_spec_l1Flag
          rw [cross1_succ, eD i hi, eD k hki]
          by_cases hc : Crosses o E[i] E[k]
          · rw [if_pos (by simpa using hc), cal_some_eq, ck_of (inI (by omega) (by omega)), ck_of (inI (by omega) (by omega)), if_pos hc]; rfl
          · rw [if_neg (by simpa using hc), cal_some_eq, ck_of (inI (by omega) (by omega)), ck_of (inI (by omega) (by omega)), if_neg hc]; simp
        · simp only [F_spec_l24Crossings_l2]
          rw [if_neg (by omega), crossN_succ]
      rw [if_pos (by omega), bnd_l inner]
      unfold F_spec_l24Crossings_k3
      rw [ck_of (inI (by omega) (by omega))]; rfl
    · simp only [F_spec_l24Crossings_l1]
      rw [if_neg (by omega)]; rfl
  rw [bnd_l key]; rfl
theorem crossingsOn_eq (h : IsOrder n o) (h1 : 1 ≤ n) (hn : n ≤ 16) (hE : ∀ e ∈ E, Pair n e) (hl : E.length ≤ 256) : F_impl_crossingsOn E o = some (crossings o E : Int) := by
  unfold F_impl_crossingsOn
  rw [cal_of (placesIn_eq h h1 hn)]
  have eD : ∀ k (hk : k < E.length), E.getD k [] = E[k] := fun k hk => by simp [hk]
  have key : lp (fun s => F_impl_crossingsOn_l1 E (placesOf n o, true) s.1 s.2) (0, 0) = some (.inl (crossings o E : Int)) := by
    refine lp_upto (fun i => ((crossN o E i : Int), (i : Int))) E.length rfl (fun i hi => ?_) ?_
    · simp only [F_impl_crossingsOn_l1]
      have b1 := crossN_le o E i
      have b0 : i * i ≤ 256 * 256 := Nat.mul_le_mul (by omega) (by omega)
      have hd : (E.drop (0 : Int).toNat).take ((i : Int).toNat - (0 : Int).toNat) = E.take i := by rw [show (0 : Int).toNat = 0 from rfl, List.drop_zero, Int.toNat_natCast, Nat.sub_zero]
      have htl : (E.take i).length = i := by rw [List.length_take]; omega
      have inner : lp (fun s => F_impl_crossingsOn_l2 E (placesOf n o, true) (i : Int) E[i] s.1 s.2) ((crossN o E i : Int), 0) = some (.inl (crossN o E (i + 1) : Int)) := by
        refine lp_upto (fun k => (((crossN o E i + cross1 o E i k : Nat) : Int), (k : Int))) i (by rw [crossN_zero]; rfl) (fun k hk => ?_) ?_
        · simp only [F_impl_crossingsOn_l2]
          have b2 := cross1_le o E i k
          have hki : k < E.length := by omega
          rw [hd, if_pos (by omega), idx_nat (by omega), List.getElem_take, cal_of (alternate_eq h (hE _ (List.getElem_mem hi)) (hE _ (List.getElem_mem hki))), cross1_succ, eD i hi, eD k hki]
          by_cases hc : Crosses o E[i] E[k]
          · rw [if_pos (by simpa using hc), ck_of (inI (by omega) (by omega)), ck_of (inI (by omega) (by omega)), if_pos hc]; rfl
          · rw [if_neg (by simpa using hc), ck_of (inI (by omega) (by omega)), if_neg hc]; rfl
        · simp only [F_impl_crossingsOn_l2]
          rw [hd, if_neg (by omega), crossN_succ]
      rw [if_pos (by omega), idx_nat hi, slc_of ⟨by decide, by omega, by omega⟩, bnd_l inner]
      unfold F_impl_crossingsOn_k3
      rw [ck_of (inI (by omega) (by omega))]; rfl
    · simp only [F_impl_crossingsOn_l1]
      rw [if_neg (by omega)]; rfl
  rw [bnd_l key]; rfl
end
end Go.Proofs.YtbefgidkaepmmaaGreatDoor

/- Lines: lists that have each number below their length once. -/
namespace Go.Proofs.YtbefgidkaepmmaaGreatDoor
def Line (a : List Int) : Prop := (1 ≤ a.length ∧ a.length ≤ 16) ∧ IsOrder a.length a
def Lines (a b : List Int) : Prop := Line a ∧ Line b ∧ a.length = b.length
theorem clone64_eq (l : List Int) (hl : l.length ≤ 1048576) : F_slices_Clone_int64 l = some l := by
  unfold F_slices_Clone_int64
  rw [app_s (by simp; omega)]; rfl
end Go.Proofs.YtbefgidkaepmmaaGreatDoor

/- The best ring: all rings looked through in their order, the first one with the fewest crossings kept, no more looked for when one has none. -/
namespace Go.Proofs.YtbefgidkaepmmaaGreatDoor
noncomputable def leafR (E : List (List Int)) (o : List Int) (s : List Int × Int) : List Int × Int :=
  if s.2 = 0 then s else if s.2 < 0 ∨ (crossings o E : Int) < s.2 then (o, (crossings o E : Int)) else s
noncomputable def goR (E : List (List Int)) (n : Nat) : Nat → List Int → List Int × Int → List Int × Int
  | 0, o, s => leafR E o s
  | d + 1, o, s => (List.range n).foldl (fun s (v : Nat) => if (v : Int) ∈ o then s else goR E n d (o ++ [(v : Int)]) s) s
section
variable {E : List (List Int)} {n : Nat}
theorem foldl_same {A B : Type} (f : A → B → A) (a : A) (h : ∀ b, f a b = a) : ∀ l : List B, l.foldl f a = a
  | [] => rfl
  | b :: l => by rw [List.foldl_cons, h, foldl_same f a h l]
theorem goR_zero : ∀ (d : Nat) (o : List Int) (s : List Int × Int), s.2 = 0 → goR E n d o s = s
  | 0, o, s, h => by rw [goR, leafR, if_pos h]
  | d + 1, o, s, h => by
    rw [goR]
    refine foldl_same _ s (fun v => ?_) _
    by_cases hv : (v : Int) ∈ o
    · rw [if_pos hv]
    · rw [if_neg hv, goR_zero d _ s h]
theorem leafR_inI (hE : E.length ≤ 256) {o : List Int} {s : List Int × Int} (h : -1 ≤ s.2 ∧ s.2 ≤ 65536) : -1 ≤ (leafR E o s).2 ∧ (leafR E o s).2 ≤ 65536 := by
  have h1 := crossN_le o E E.length
  have h2 : E.length * E.length ≤ 256 * 256 := Nat.mul_le_mul hE hE
  unfold leafR crossings
  repeat' split
  all_goals (first | exact h | (simp only []; omega))
def PartR (n : Nat) (o : List Int) : Prop := (∀ x ∈ o, 0 ≤ x ∧ x < n) ∧ o.Nodup
theorem PartR.snoc {o : List Int} (h : PartR n o) {v : Nat} (hv : v < n) (hn : (v : Int) ∉ o) : PartR n (o ++ [(v : Int)]) := by
  refine ⟨fun x hx => ?_, List.nodup_append.2 ⟨h.2, by simp, fun a ha b hb e => ?_⟩⟩
  · rcases List.mem_append.1 hx with g | g
    · exact h.1 x g
    · rw [List.mem_singleton] at g; omega
  · rw [List.mem_singleton] at hb; subst hb; exact hn (e ▸ ha)
theorem leafR_nz {o : List Int} {s : List Int × Int} (h : s.2 ≠ 0) : leafR E o s = if s.2 < 0 ∨ (crossings o E : Int) < s.2 then (o, (crossings o E : Int)) else s := if_neg h
theorem l1Copy_eq6 {l : List Int} (h : l.length ≤ 1048576) : F_spec_l1Copy l = some l := by
  unfold F_spec_l1Copy
  rw [app_s (by simp; omega)]; rfl
theorem l24Rings_eq (hn : n ≤ 16) (hE : ∀ e ∈ E, Pair n e) (hl : E.length ≤ 256) (d : Nat) (o : List Int) (s : List Int × Int) (hd : o.length + d = n) (hp : PartR n o) : F_spec_l24Rings E o (n : Int) s.1 s.2 = some (goR E n d o s) := by
  refine fixO_ind (J := Nat × List Int × List Int × Int) (fun j => (E, j.2.1, (n : Int), j.2.2.1, j.2.2.2)) (fun j => j.1) (fun j => goR E n j.1 j.2.1 j.2.2) (fun j => j.2.1.length + j.1 = n ∧ PartR n j.2.1) ?_ (d, o, s) ⟨hd, hp⟩
  rintro R ⟨d, o, b, m⟩ ⟨hd, hp⟩ ih
  simp only at hd hp ⊢
  unfold F_spec_l24Rings_body
  by_cases h0 : m = 0
  · rw [if_pos h0, goR_zero d o (b, m) h0]
  rw [if_neg h0]
  cases d with
  | zero =>
    have hlen : o.length = n := by omega
    rw [if_pos (by omega), cal_of (l24Crossings_eq ⟨hlen, hp.1, hp.2⟩ hn hE hl), goR, leafR_nz (s := (b, m)) h0]
    by_cases h1 : m < 0
    · rw [if_pos h1, cal_of (l1Copy_eq6 (by omega)), if_pos (.inl h1)]
    · rw [if_neg h1]
      by_cases h2 : (crossings o E : Int) < m
      · rw [if_pos h2, cal_of (l1Copy_eq6 (by omega)), if_pos (.inr h2)]
      · rw [if_neg h2, if_neg (by omega)]
  | succ d =>
    rw [if_neg (by omega), goR]
    have key := lp_upto (step := fun q : List Int × Int × Int => F_spec_l24Rings_l1 E o (n : Int) (fun z0 z1 z2 z3 z4 => R (z0, z1, z2, z3, z4)) q.1 q.2.1 q.2.2)
      (fun k => (((List.range k).foldl (fun s (v : Nat) => if (v : Int) ∈ o then s else goR E n d (o ++ [(v : Int)]) s) (b, m)).1, ((List.range k).foldl (fun s (v : Nat) => if (v : Int) ∈ o then s else goR E n d (o ++ [(v : Int)]) s) (b, m)).2, (k : Int))) n
      (s := (b, m, 0)) rfl (fun k hk => ?_) (o := .inl ((List.range n).foldl (fun s (v : Nat) => if (v : Int) ∈ o then s else goR E n d (o ++ [(v : Int)]) s) (b, m))) ?_
    · rw [key]; rfl
    · simp only [F_spec_l24Rings_l1]
      rw [if_pos (by omega), cal_of (l1Has_eq _ _ (by omega)), List.range_succ, List.foldl_append, List.foldl_cons, List.foldl_nil]
      generalize (List.range k).foldl (fun s (v : Nat) => if (v : Int) ∈ o then s else goR E n d (o ++ [(v : Int)]) s) (b, m) = t
      by_cases hx : (k : Int) ∈ o
      · rw [if_neg (by simpa using hx), ck_of (inI (by omega) (by omega)), if_pos hx]; rfl
      · rw [if_pos (by simpa using hx), cal_of (l1Copy_eq6 (by omega)), app1_s (by omega), cal_of (ih (d, o ++ [(k : Int)], t) ⟨by simp; omega, hp.snoc hk hx⟩ (by simp only; omega)), ck_of (inI (by omega) (by omega)), if_neg hx]; rfl
    · simp only [F_spec_l24Rings_l1]
      rw [if_neg (by omega)]
theorem firstOf_eq {n : Nat} (hn : n ≤ 16) : F_impl_firstOf (n : Int) = some (BitVec.ofNat 32 (2 ^ n - 1)) := by
  have h1 : 2 ^ n ≤ 2 ^ 16 := pow16 hn
  have h2 : 0 < 2 ^ n := Nat.two_pow_pos _
  unfold F_impl_firstOf
  rw [grd_of (Int.natCast_nonneg _), Int.toNat_natCast, bv_shl (by omega), bv_sub_one h2 (by omega)]
def offR (n : Nat) (o : List Int) : List Nat := (List.range n).filter fun (v : Nat) => decide ((v : Int) ∉ o)
theorem offR_list (hn : n ≤ 16) {o : List Int} (hp : PartR n o) : F_impl_vset_list (BitVec.ofNat 32 (2 ^ n - 1) &&& ~~~ BitVec.ofNat 32 (mk o)) = some (ints (offR n o)) := by
  have hp16 : 2 ^ n ≤ 2 ^ 16 := pow16 hn
  have hlt : sdiff (2 ^ n - 1) (mk o) < 2 ^ n := sdiff_lt (by have := Nat.two_pow_pos n; omega)
  have hm : mk o < 2 ^ n := mk_lt hp.1
  rw [bv_andn (by omega), list_eq (by omega), els_range hn hlt]
  unfold offR
  congr 2
  refine List.filter_congr fun v hv => ?_
  rw [List.mem_range] at hv
  rw [sdiff_bit, Nat.testBit_two_pow_sub_one, mk_mem (fun x hx => (hp.1 x hx).1)]
  simp [hv]
theorem goR_off (d : Nat) (o : List Int) (s : List Int × Int) : goR E n (d + 1) o s = (offR n o).foldl (fun s (v : Nat) => goR E n d (o ++ [(v : Int)]) s) s := by
  rw [goR]; unfold offR
  generalize List.range n = l
  induction l generalizing s with
  | nil => rfl
  | cons v l ih =>
    rw [List.foldl_cons, List.filter_cons]
    by_cases hv : (v : Int) ∈ o
    · rw [if_pos hv, if_neg (by simpa using hv), ih]
    · rw [if_neg hv, if_pos (by simpa using hv), List.foldl_cons, ih]
theorem leastRing1_eq {o : List Int} (h : IsOrder n o) (h1 : 1 ≤ n) (hn : n ≤ 16) (hE : ∀ e ∈ E, Pair n e) (hl : E.length ≤ 256) {s : List Int × Int} (hs : s.2 ≠ 0) : F_impl_leastRing_1 E o s = some (decide ((leafR E o s).2 = 0), leafR E o s) := by
  unfold F_impl_leastRing_1
  have hlen := h.1
  rw [cal_of (crossingsOn_eq h h1 hn hE hl), leafR_nz hs]
  by_cases h1 : s.2 < 0
  · rw [if_pos h1, cal_of (clone64_eq _ (by omega)), if_pos (.inl h1)]
  · rw [if_neg h1]
    by_cases h2 : (crossings o E : Int) < s.2
    · rw [if_pos h2, cal_of (clone64_eq _ (by omega)), if_pos (.inr h2)]
    · rw [if_neg h2, if_neg (by omega)]
theorem rings_eq (h1 : 1 ≤ n) (hn : n ≤ 16) (hE : ∀ e ∈ E, Pair n e) (hl : E.length ≤ 256) (d : Nat) (o : List Int) (s : List Int × Int) (hd : o.length + d = n) (hp : PartR n o) (hs : s.2 ≠ 0) :
    F_impl_rings (F_impl_leastRing_1 E) (n : Int) o (BitVec.ofNat 32 (mk o)) s = some (decide ((goR E n d o s).2 = 0), goR E n d o s) := by
  refine fixO_ind (J := Nat × List Int × List Int × Int) (fun j => ((n : Int), j.2.1, BitVec.ofNat 32 (mk j.2.1), j.2.2)) (fun j => j.1) (fun j => (decide ((goR E n j.1 j.2.1 j.2.2).2 = 0), goR E n j.1 j.2.1 j.2.2)) (fun j => (j.2.1.length + j.1 = n ∧ PartR n j.2.1) ∧ j.2.2.2 ≠ 0) ?_ (d, o, s) ⟨⟨hd, hp⟩, hs⟩
  rintro R ⟨d, o, s⟩ ⟨⟨hd, hp⟩, hs⟩ ih
  simp only at hd hp hs ⊢
  unfold F_impl_rings_B F_impl_rings_body
  dsimp only
  cases d with
  | zero =>
    have hlen : o.length = n := by omega
    rw [if_pos (by omega), leastRing1_eq ⟨hlen, hp.1, hp.2⟩ h1 hn hE hl hs]; rfl
  | succ d =>
    rw [if_neg (by omega), cal_of (firstOf_eq hn), cal_of (offR_list hn hp), goR_off]
    have hoff : ∀ v ∈ offR n o, v < n ∧ (v : Int) ∉ o := fun v hv => by
      unfold offR at hv; rw [List.mem_filter, List.mem_range] at hv; exact ⟨hv.1, by simpa using hv.2⟩
    have hll : (offR n o).length ≤ n := by unfold offR; exact Nat.le_trans (List.length_filter_le ..) (by simp)
    obtain ⟨out, hout, hq⟩ := lp_rule (step := fun q : (List Int × Int) × Int => F_impl_rings_l1 (n : Int) o (BitVec.ofNat 32 (mk o)) (fun z0 z1 z2 z3 => R (z0, z1, z2, z3)) (ints (offR n o)) q.1 q.2)
      (fun q => ∃ k : Nat, k ≤ (offR n o).length ∧ q.2 = (k : Int) ∧ q.1.2 ≠ 0 ∧ (((offR n o).drop k).foldl (fun s (v : Nat) => goR E n d (o ++ [(v : Int)]) s) q.1) = (offR n o).foldl (fun s (v : Nat) => goR E n d (o ++ [(v : Int)]) s) s)
      (fun q => (offR n o).length - q.2.toNat)
      (fun out => ∃ t, t = (offR n o).foldl (fun s (v : Nat) => goR E n d (o ++ [(v : Int)]) s) s ∧ ((out = .inl t ∧ t.2 ≠ 0) ∨ (out = .inr (true, t) ∧ t.2 = 0))) (by
        rintro ⟨t, i⟩ ⟨k, hk, rfl, ht, hf⟩
        simp only at ht hf
        by_cases hlt : k < (offR n o).length
        · obtain ⟨hv, hvo⟩ := hoff _ (List.getElem_mem hlt)
          rw [List.drop_eq_getElem_cons hlt, List.foldl_cons] at hf
          have hR := ih (d, o ++ [((offR n o)[k] : Int)], t) ⟨⟨by simp; omega, hp.snoc hv hvo⟩, ht⟩ (by simp only; omega)
          simp only at hR
          have hmk : mk (o ++ [((offR n o)[k] : Int)]) = mk o ||| 2 ^ (offR n o)[k] := by rw [mk_snoc, Int.toNat_natCast]
          have hstep : F_impl_rings_l1 (n : Int) o (BitVec.ofNat 32 (mk o)) (fun z0 z1 z2 z3 => R (z0, z1, z2, z3)) (ints (offR n o)) t (k : Int) = if decide ((goR E n d (o ++ [((offR n o)[k] : Int)]) t).2 = 0) = true then some (.inr (.inr (true, goR E n d (o ++ [((offR n o)[k] : Int)]) t))) else some (.inl (goR E n d (o ++ [((offR n o)[k] : Int)]) t, ((k + 1 : Nat) : Int))) := by
            unfold F_impl_rings_l1
            rw [if_pos (by rw [ints_len]; omega), idx_ints hlt, cal_of (clone64_eq _ (by omega)), app1_s (by omega), cal_of (one_eq (by omega)), bv_or, ← hmk, cal_of hR, ck_of (inI (by omega) (by omega))]; rfl
          rw [hstep]
          by_cases hz : (goR E n d (o ++ [((offR n o)[k] : Int)]) t).2 = 0
          · refine .inr ⟨_, if_pos (by simpa using hz), _, ?_, .inr ⟨rfl, hz⟩⟩
            rw [← hf]
            exact (foldl_same _ _ (fun v => goR_zero _ _ _ hz) _).symm
          · exact .inl ⟨_, if_neg (by simpa using hz), ⟨k + 1, hlt, rfl, hz, hf⟩, by simp only; omega⟩
        · obtain rfl : k = (offR n o).length := by omega
          rw [List.drop_length, List.foldl_nil] at hf
          refine .inr ⟨.inl t, ?_, t, hf, .inl ⟨rfl, ht⟩⟩
          simp only [F_impl_rings_l1]
          rw [if_neg (by rw [ints_len]; omega)]) (s, 0) ⟨0, Nat.zero_le _, rfl, hs, rfl⟩
    obtain ⟨t, rfl, ⟨rfl, hz⟩ | ⟨rfl, hz⟩⟩ := hq
    · rw [hout]
      show some (false, _) = _
      rw [decide_eq_false hz]
    · rw [hout]
      show some (true, _) = _
      rw [decide_eq_true hz]
end
open Classical in
theorem l26Small_eq2 (g : List (List Int)) (hl : ∀ x ∈ g, x.length ≤ 1048576) : F_spec_l26Small g = some (decide (GOk g ∧ g.length ≤ 8)) := by
  unfold F_spec_l26Small
  rw [cal_of (specGraphOk_eq g hl)]
  by_cases hg : GOk g
  · rw [if_pos (by simp [hg])]; congr 1; rw [Bool.eq_iff_iff]; simp [hg]; omega
  · rw [if_neg (by simp [hg])]; simp [hg]
open Classical in
theorem isSmall_eq2 (g : List (List Int)) (hgl : g.length ≤ 1048576) (hl : ∀ x ∈ g, x.length ≤ 1048576) : F_impl_isSmall g = some (decide (GOk g ∧ g.length ≤ 8)) := by
  unfold F_impl_isSmall
  rw [cal_of (implGraphOk_eq g hgl hl)]
  by_cases hg : GOk g
  · rw [if_pos (by simp [hg])]; congr 1; rw [Bool.eq_iff_iff]; simp [hg]; omega
  · rw [if_neg (by simp [hg])]; simp [hg]
noncomputable def bestR (g : List (List Int)) : List Int × Int := goR (edges g) g.length (g.length - 1) [0] ([], -1)
theorem partR_zero {n : Nat} (h : 1 ≤ n) : PartR n [0] := ⟨fun x hx => by rw [List.mem_singleton] at hx; omega, by simp⟩
theorem l24Least_eq {g : List (List Int)} (hg : GOk g) : F_spec_l24Least g = some (bestR g) := by
  have h1 := hg.n1; have h16 := hg.n16
  unfold F_spec_l24Least F_spec_l1Size
  rw [cal_of (l1Edges_eq hg), cal_some_eq, cal_of (l24Rings_eq (n := g.length) h16 (fun e he => edges_pair hg he) (edges_len256 hg) (g.length - 1) [0] ([], -1) (by simp; omega) (partR_zero h1))]
  rfl
theorem leastRing_eq {g : List (List Int)} (hg : GOk g) : F_impl_leastRing g = some (bestR g) := by
  have h1 := hg.n1; have h16 := hg.n16
  unfold F_impl_leastRing
  have := rings_eq (n := g.length) h1 h16 (fun e he => edges_pair hg he) (edges_len256 hg) (g.length - 1) [0] ([], -1) (by simp; omega) (partR_zero h1) (by decide)
  rw [show BitVec.ofNat 32 (mk [0]) = 1#32 from by decide] at this
  rw [cal_of (edgesOf_eq hg), cal_of this]
  rfl
theorem goR_len {E : List (List Int)} {n m : Nat} (hl : E.length ≤ 256) : ∀ (d : Nat) (o : List Int) (s : List Int × Int), o.length + d ≤ m → s.1.length ≤ m → -1 ≤ s.2 ∧ s.2 ≤ 65536 → (goR E n d o s).1.length ≤ m ∧ -1 ≤ (goR E n d o s).2 ∧ (goR E n d o s).2 ≤ 65536
  | 0, o, s, h1, h2, h3 => by
    rw [goR]
    refine ⟨?_, leafR_inI hl h3⟩
    unfold leafR
    repeat' split
    all_goals (first | exact h2 | (simp only []; omega))
  | d + 1, o, s, h1, h2, h3 => by
    rw [goR]
    generalize List.range n = l
    induction l generalizing s with
    | nil => exact ⟨h2, h3⟩
    | cons v l ih =>
      rw [List.foldl_cons]
      by_cases hv : (v : Int) ∈ o
      · rw [if_pos hv]; exact ih s h2 h3
      · rw [if_neg hv]
        obtain ⟨k1, k2⟩ := goR_len hl d (o ++ [(v : Int)]) s (by simp; omega) h2 h3
        exact ih _ k1 k2
theorem bestR_small {g : List (List Int)} (hg : GOk g) : (bestR g).1.length ≤ 1048576 := by
  have h1 := hg.n1; have h16 := hg.n16
  exact (goR_len (m := 1048576) (edges_len256 hg) _ _ _ (by simp; omega) (by simp) (by simp)).1
end Go.Proofs.YtbefgidkaepmmaaGreatDoor

/- The laws' helpers over graphs. -/
namespace Go.Proofs.YtbefgidkaepmmaaGreatDoor
end Go.Proofs.YtbefgidkaepmmaaGreatDoor

/- The laws' helpers: numbers written into memory and found again. -/
namespace Go.Proofs.YtbefgidkaepmmaaGreatDoor
end Go.Proofs.YtbefgidkaepmmaaGreatDoor

/- FnExactOuterRing: the plain law. -/
namespace Go.Proofs.YtbefgidkaepmmaaGreatDoor
open Classical in
noncomputable def resLeastC (g : List (List Int)) : List Int × Int := if GOk g ∧ g.length ≤ 8 then bestR g else ([], -1)
open Classical in
noncomputable def resOuterRing (g : List (List Int)) : List Int × Bool := if (resLeastC g).2 = 0 then ((resLeastC g).1, true) else ([], false)
theorem specOuterRing_eq (g : List (List Int)) (hgl : g.length ≤ 1048576) (hl : ∀ x ∈ g, x.length ≤ 1048576) : F_spec_OuterRing g = some (resOuterRing g) := by
  unfold F_spec_OuterRing resOuterRing resLeastC
  rw [cal_of (l26Small_eq2 g hl)]
  by_cases h : GOk g ∧ g.length ≤ 8
  · rw [if_neg (by simpa using h), cal_of (l24Least_eq h.1), if_pos h]
    by_cases h0 : (bestR g).2 = 0
    · rw [if_neg (by simpa using h0), if_pos h0]
    · rw [if_pos h0, if_neg h0]
  · rw [if_pos (by simpa using h), if_neg h, if_neg (by decide)]
theorem resOuterRing_small (g : List (List Int)) (hgl : g.length ≤ 1048576) (hl : ∀ x ∈ g, x.length ≤ 1048576) : (resOuterRing g).1.length ≤ 1048576 := by
  unfold resOuterRing
  split
  · show (resLeastC g).1.length ≤ _
    unfold resLeastC
    split
    · rename_i h; exact bestR_small h.1
    · simp
  · simp
end Go.Proofs.YtbefgidkaepmmaaGreatDoor

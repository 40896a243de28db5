/- Plain texts: Lib, Bitset, Fold, Loops, LawSz, LawCopy, LawIn, Graph, BitF, SetF, Count, Edges, Cover, Slices, Tab, MatchCount, Parts, Nice, LawGraph, TFnExactNiceOk. -/
import Derived.Test.YtnebbhginakaiaaPure
import Derived.Test.YtnebbhginakaiaaF
/- Plain lemmas on the combinators, for the laws in plain Lean. -/
namespace Go.Proofs.Ytnebbhginakaiaa
section
variable {α β A S O : Type}
theorem inI {x : Int} (h1 : -9223372036854775808 ≤ x) (h2 : x ≤ 9223372036854775807) : InI x := ⟨h1, h2⟩
theorem ck_of {x : Int} {k : Int → Option β} (h : InI x) : ck x k = k x := by unfold ck; rw [if_pos h]
theorem idx_of {xs : List α} {i : Int} {k : α → Option β} {x : α} (h0 : 0 ≤ i) (h : xs[i.toNat]? = some x) : idx xs i k = k x := by
  unfold idx; rw [if_pos h0, h]
theorem idx_nat {xs : List α} {i : Nat} {k : α → Option β} (h : i < xs.length) : idx xs (i : Int) k = k xs[i] :=
  idx_of (Int.natCast_nonneg _) (by simp [h])
theorem app_of {xs ys : List α} {k : List α → Option β} (h : xs.length + ys.length ≤ lim) : app xs ys k = k (xs ++ ys) := by unfold app; rw [if_pos h]
theorem mkS_of {n : Int} {z : α} {k : List α → Option β} (h0 : 0 ≤ n) (h : n ≤ lim) : mkS n z k = k (List.replicate n.toNat z) := by unfold mkS; rw [if_pos ⟨h0, h⟩]
theorem slc_of {xs : List α} {i j : Int} {k : List α → Option β} (h : 0 ≤ i ∧ i ≤ j ∧ j ≤ xs.length) : slc xs i j k = k ((xs.drop i.toNat).take (j.toNat - i.toNat)) := by unfold slc; rw [if_pos h]
theorem grd_of {p : Prop} [Decidable p] {k : Option β} (h : p) : grd p k = k := by unfold grd; rw [if_pos h]
theorem cal_of {e : Option α} {k : α → Option β} {x : α} (h : e = some x) : cal e k = k x := by rw [h]; rfl
theorem bnd_l {e : Option (α ⊕ A)} {k : α → Option A} {j : α} (h : e = some (.inl j)) : bnd e k = k j := by rw [h]; rfl
theorem bnd_r {e : Option (α ⊕ A)} {k : α → Option A} {a : A} (h : e = some (.inr a)) : bnd e k = some a := by rw [h]; rfl
@[simp] theorem cal_some_eq (x : α) (k : α → Option β) : cal (some x) k = k x := rfl
@[simp] theorem bnd_inl_eq (j : α) (k : α → Option A) : bnd (some (.inl j)) k = k j := rfl
@[simp] theorem bnd_inr_eq (a : A) (k : α → Option A) : bnd (some (.inr a)) k = some a := rfl
theorem lp_up {step : S → Option (S ⊕ O)} (f : Nat → S) (m : Nat) {o : O} (h : ∀ k, k < m → step (f k) = some (.inl (f (k + 1)))) (he : step (f m) = some (.inr o)) : lp step (f 0) = some o := by
  have key : ∀ j k, k + j = m → lp step (f k) = some o := by
    intro j
    induction j with
    | zero => intro k hk; rw [lp_unfold, show k = m by omega, he]
    | succ j ih => intro k hk; rw [lp_unfold, h k (by omega)]; exact ih (k + 1) (by omega)
  exact key m 0 (by omega)
theorem lp_upto {step : S → Option (S ⊕ O)} (f : Nat → S) (m : Nat) {s : S} {o : O} (hs : s = f 0) (h : ∀ k, k < m → step (f k) = some (.inl (f (k + 1)))) (he : step (f m) = some (.inr o)) : lp step s = some o := by
  rw [hs]; exact lp_up f m h he
theorem inl_eq {s s' : S} (h : s = s') : (some (.inl s) : Option (S ⊕ O)) = some (.inl s') := by rw [h]
theorem pair_eq {a a' : α} {b b' : β} (h : a = a') (h' : b = b') : (a, b) = (a', b') := by rw [h, h']
theorem lp_all {step : S → Option (S ⊕ O)} (f : Nat → S) (n : Nat) (p : Nat → Prop) {oT oF : O} (h1 : ∀ k, k < n → p k → step (f k) = some (.inl (f (k + 1)))) (h2 : ∀ k, k < n → ¬ p k → step (f k) = some (.inr oF))
    (h3 : step (f n) = some (.inr oT)) : ((∀ k, k < n → p k) → lp step (f 0) = some oT) ∧ ((∃ k, k < n ∧ ¬ p k) → lp step (f 0) = some oF) := by
  refine ⟨fun h => lp_up f n (fun k hk => h1 k hk (h k hk)) h3, fun h => ?_⟩
  obtain ⟨m, ⟨hm, hp⟩, hl⟩ := least_of h
  refine lp_up f m (fun k hk => h1 k (by omega) ?_) (h2 m hm hp)
  exact Classical.byContradiction fun hn => by have := hl k ⟨by omega, hn⟩; omega
theorem lp_allB {step : S → Option (S ⊕ O)} (f : Nat → S) (n : Nat) (p : Nat → Prop) (b : Bool) {g : Bool → O} (hb : b = true ↔ ∀ k, k < n → p k) (h1 : ∀ k, k < n → p k → step (f k) = some (.inl (f (k + 1))))
    (h2 : ∀ k, k < n → ¬ p k → step (f k) = some (.inr (g false))) (h3 : step (f n) = some (.inr (g true))) : lp step (f 0) = some (g b) := by
  obtain ⟨ht, hf⟩ := lp_all f n p h1 h2 h3
  cases b with
  | true => exact ht (hb.1 rfl)
  | false =>
    refine hf (Classical.byContradiction fun hn => ?_)
    have : false = true := hb.2 fun k hk => Classical.byContradiction fun hp => hn ⟨k, hk, hp⟩
    cases this
theorem take_succ_of {xs : List α} {k : Nat} (h : k < xs.length) : xs.take (k + 1) = xs.take k ++ [xs[k]] := by
  rw [List.take_add_one, List.getElem?_eq_getElem h]; rfl
theorem ne_of_lt_idxOf {s : List Int} {c : Int} {k : Nat} (hk : k < s.idxOf c) (h : k < s.length) : s[k] ≠ c := by
  have := List.not_of_lt_findIdx (p := (· == c)) (xs := s) (i := k) hk
  simpa using this
theorem set_app {xs : List α} {pre post : List α} {k : Nat} {x y : α} (hx : xs = pre ++ y :: post) (hk : pre.length = k) : xs.set k x = pre ++ x :: post := by
  subst hx; subst hk; simp
end
end Go.Proofs.Ytnebbhginakaiaa

/- Sets of small numbers as bits: natural numbers, what is in them, their least, how many. No program in sight. -/
namespace Go.Proofs.Ytnebbhginakaiaa
/-! ## natural numbers by their bits -/
def low (n : Nat) : Nat := if h : n = 0 then 0 else if n % 2 = 1 then 0 else low (n / 2) + 1
theorem bit_lt {n k j : Nat} (hn : n < 2 ^ k) (h : n.testBit j = true) : j < k := by
  rcases Nat.lt_or_ge j k with g | g
  · exact g
  · rw [Nat.testBit_lt_two_pow (Nat.lt_of_lt_of_le hn (Nat.pow_le_pow_right (by decide) g))] at h; cases h
theorem bits_ext {a b : Nat} (h : ∀ j, a.testBit j = b.testBit j) : a = b := Nat.eq_of_testBit_eq h
/-! ## the numbers in a set, rising -/
def els (n : Nat) : List Nat := (List.range 16).filter (fun v => n.testBit v)
theorem mem_els {n v : Nat} (hn : n < 2 ^ 16) : v ∈ els n ↔ n.testBit v = true := by
  unfold els; rw [List.mem_filter, List.mem_range]
  exact ⟨fun h => h.2, fun h => ⟨bit_lt hn h, h⟩⟩
theorem sorted_ext : ∀ {l l' : List Nat}, l.Pairwise (· < ·) → l'.Pairwise (· < ·) → (∀ x, x ∈ l ↔ x ∈ l') → l = l'
  | [], [], _, _, _ => rfl
  | [], y :: l', _, _, h => nomatch (h y).2 (List.mem_cons_self ..)
  | x :: l, [], _, _, h => nomatch (h x).1 (List.mem_cons_self ..)
  | x :: l, y :: l', h1, h2, h => by
    rw [List.pairwise_cons] at h1 h2
    have hxy : x = y := by
      rcases List.mem_cons.1 ((h x).1 (List.mem_cons_self ..)) with e | e
      · exact e
      · rcases List.mem_cons.1 ((h y).2 (List.mem_cons_self ..)) with e' | e'
        · exact e'.symm
        · have := h1.1 _ e'; have := h2.1 _ e; omega
    subst hxy
    congr 1
    refine sorted_ext h1.2 h2.2 fun z => ⟨fun hz => ?_, fun hz => ?_⟩
    · rcases List.mem_cons.1 ((h z).1 (List.mem_cons_of_mem _ hz)) with e | e
      · have := h1.1 _ hz; omega
      · exact e
    · rcases List.mem_cons.1 ((h z).2 (List.mem_cons_of_mem _ hz)) with e | e
      · have := h2.1 _ hz; omega
      · exact e
theorem els_sorted (n : Nat) : (els n).Pairwise (· < ·) := List.Pairwise.sublist List.filter_sublist List.pairwise_lt_range
def mk (s : List Int) : Nat := s.foldl (fun (b : Nat) (v : Int) => b ||| 2 ^ v.toNat) 0
theorem mk_fold (s : List Int) : ∀ b j, (s.foldl (fun (b : Nat) (v : Int) => b ||| 2 ^ v.toNat) b).testBit j = (b.testBit j || decide (∃ v ∈ s, v.toNat = j)) := by
  induction s with
  | nil => intro b j; simp
  | cons v s ih =>
    intro b j
    rw [List.foldl_cons, ih, Nat.testBit_or, Nat.testBit_two_pow, Bool.or_assoc]
    congr 1
    by_cases e : v.toNat = j <;> simp [e]
theorem mk_bit (s : List Int) (j : Nat) : (mk s).testBit j = decide (∃ v ∈ s, v.toNat = j) := by unfold mk; rw [mk_fold]; simp
theorem mk_lt {s : List Int} {k : Nat} (h : ∀ v ∈ s, 0 ≤ v ∧ v < k) : mk s < 2 ^ k := by
  apply Nat.lt_pow_two_of_testBit
  intro j hj
  rw [mk_bit, decide_eq_false]
  rintro ⟨v, hv, e⟩
  have := h v hv; omega
theorem mk_mem {s : List Int} (h : ∀ v ∈ s, 0 ≤ v) (j : Nat) : (mk s).testBit j = decide ((j : Int) ∈ s) := by
  rw [mk_bit]
  have : (∃ v ∈ s, v.toNat = j) ↔ (j : Int) ∈ s := ⟨fun ⟨v, hv, e⟩ => by have := h v hv; rw [show (j : Int) = v by omega]; exact hv, fun hm => ⟨j, hm, by omega⟩⟩
  simp [this]
theorem or_lt {a b k : Nat} (ha : a < 2 ^ k) (hb : b < 2 ^ k) : a ||| b < 2 ^ k := Nat.or_lt_two_pow ha hb
def sdiff (a b : Nat) : Nat := a ^^^ (a &&& b)
theorem sdiff_bit (a b j : Nat) : (sdiff a b).testBit j = (a.testBit j && !b.testBit j) := by
  unfold sdiff; rw [Nat.testBit_xor, Nat.testBit_and]; cases a.testBit j <;> cases b.testBit j <;> rfl
theorem sdiff_le (a b : Nat) : sdiff a b ≤ a := by
  apply Nat.le_of_testBit
  intro i hi
  rw [sdiff_bit] at hi; simp at hi; exact hi.1
theorem sdiff_lt {a b k : Nat} (ha : a < 2 ^ k) : sdiff a b < 2 ^ k := Nat.lt_of_le_of_lt (sdiff_le a b) ha
/-! ## the same in 64 bits with a sign, and in 32 bits -/
theorem i64or_nat {a b : Nat} (ha : a < 2 ^ 63) (hb : b < 2 ^ 63) : i64or a b = ((a ||| b : Nat) : Int) := by
  have h1 : a ||| b < 2 ^ 63 := or_lt ha hb
  unfold i64or
  rw [BitVec.toInt_eq_toNat_of_lt]
  · rw [BitVec.toNat_or, BitVec.ofInt_natCast, BitVec.ofInt_natCast, BitVec.toNat_ofNat, BitVec.toNat_ofNat, Nat.mod_eq_of_lt (by omega), Nat.mod_eq_of_lt (by omega)]
  · rw [BitVec.toNat_or, BitVec.ofInt_natCast, BitVec.ofInt_natCast, BitVec.toNat_ofNat, BitVec.toNat_ofNat, Nat.mod_eq_of_lt (by omega), Nat.mod_eq_of_lt (by omega)]; omega
theorem testBit_not32 (w : Nat) (b : BitVec w) (j : Nat) : (~~~b).toNat.testBit j = (decide (j < w) && !b.toNat.testBit j) := by
  rw [← BitVec.getLsbD, BitVec.getLsbD_not]; rfl
theorem i64andn_nat {a b : Nat} (ha : a < 2 ^ 63) (hb : b < 2 ^ 63) : i64andn a b = ((sdiff a b : Nat) : Int) := by
  have h1 : sdiff a b < 2 ^ 63 := sdiff_lt ha
  have key : (BitVec.ofInt 64 (a : Int) &&& ~~~ BitVec.ofInt 64 (b : Int)).toNat = sdiff a b := by
    apply bits_ext
    intro j
    rw [BitVec.toNat_and, Nat.testBit_and, testBit_not32, BitVec.ofInt_natCast, BitVec.ofInt_natCast, BitVec.toNat_ofNat, BitVec.toNat_ofNat, Nat.mod_eq_of_lt (by omega), Nat.mod_eq_of_lt (by omega), sdiff_bit]
    by_cases hj : j < 64
    · simp [hj]
    · rw [Nat.testBit_lt_two_pow (Nat.lt_of_lt_of_le ha (Nat.pow_le_pow_right (by decide) (by omega)))]; rfl
  unfold i64andn
  rw [BitVec.toInt_eq_toNat_of_lt (by rw [key]; omega), key]
theorem inI_nat {a : Nat} (h : a < 2 ^ 62) : InI (a : Int) := by unfold InI; omega
theorem two_pow_nat (k : Nat) : (1 : Int) * 2 ^ k = ((2 ^ k : Nat) : Int) := by rw [Int.one_mul, Int.natCast_pow]; rfl
/-! 32 bits -/
theorem bv_and (a b : Nat) : BitVec.ofNat 32 a &&& BitVec.ofNat 32 b = BitVec.ofNat 32 (a &&& b) := by
  apply BitVec.eq_of_toNat_eq; simp [BitVec.toNat_and, Nat.and_mod_two_pow]
theorem bv_or (a b : Nat) : BitVec.ofNat 32 a ||| BitVec.ofNat 32 b = BitVec.ofNat 32 (a ||| b) := by
  apply BitVec.eq_of_toNat_eq; simp [BitVec.toNat_or, Nat.or_mod_two_pow]
theorem bv_shl {k : Nat} (h : k < 32) : 1#32 <<< k = BitVec.ofNat 32 (2 ^ k) := by
  apply BitVec.eq_of_toNat_eq; simp [BitVec.toNat_shiftLeft, Nat.shiftLeft_eq]
theorem bv_inj {a b : Nat} (ha : a < 2 ^ 32) (hb : b < 2 ^ 32) : BitVec.ofNat 32 a = BitVec.ofNat 32 b ↔ a = b := by
  refine ⟨fun h => ?_, fun h => by rw [h]⟩
  have := congrArg BitVec.toNat h
  rwa [BitVec.toNat_ofNat, BitVec.toNat_ofNat, Nat.mod_eq_of_lt ha, Nat.mod_eq_of_lt hb] at this
theorem bv_toNat {a : Nat} (ha : a < 2 ^ 32) : (BitVec.ofNat 32 a).toNat = a := by rw [BitVec.toNat_ofNat, Nat.mod_eq_of_lt ha]
theorem bv_andn {a b : Nat} (ha : a < 2 ^ 32) : BitVec.ofNat 32 a &&& ~~~ BitVec.ofNat 32 b = BitVec.ofNat 32 (sdiff a b) := by
  have h1 : sdiff a b < 2 ^ 32 := sdiff_lt ha
  apply BitVec.eq_of_toNat_eq
  apply bits_ext
  intro j
  rw [BitVec.toNat_and, Nat.testBit_and, testBit_not32, bv_toNat ha, bv_toNat h1, sdiff_bit, BitVec.toNat_ofNat, Nat.testBit_mod_two_pow]
  by_cases hj : j < 32
  · simp [hj]
  · rw [Nat.testBit_lt_two_pow (Nat.lt_of_lt_of_le ha (Nat.pow_le_pow_right (by decide) (by omega)))]; rfl
end Go.Proofs.Ytnebbhginakaiaa

/- Loops that gather: over a list, over numbers; what simp takes to run straight code. -/
namespace Go.Proofs.Ytnebbhginakaiaa
section
variable {α β A S O : Type}
theorem app_s {xs ys : List α} {k : List α → Option β} (h : xs.length + ys.length ≤ 1099511627776) : app xs ys k = k (xs ++ ys) := app_of h
theorem app1_s {xs : List α} {y : α} {k : List α → Option β} (h : xs.length + 1 ≤ 1099511627776) : app xs [y] k = k (xs ++ [y]) := app_of (show xs.length + [y].length ≤ 1099511627776 from h)
theorem lp_fold {step : A × Int → Option ((A × Int) ⊕ O)} (xs : List α) (f : A → α → A) (a0 : A) (p : A → Prop) {o : O} (h0 : p a0)
    (h : ∀ (k : Nat) (hk : k < xs.length) (a : A), p a → step (a, (k : Int)) = some (.inl (f a xs[k], ((k + 1 : Nat) : Int))) ∧ p (f a xs[k]))
    (he : ∀ a, a = xs.foldl f a0 → step (a, (xs.length : Int)) = some (.inr o)) : lp step (a0, 0) = some o := by
  have hp : ∀ k, k ≤ xs.length → p ((xs.take k).foldl f a0) := by
    intro k
    induction k with
    | zero => intro _; simpa using h0
    | succ k ih => intro hk; rw [take_succ_of (by omega), List.foldl_append]; exact (h k (by omega) _ (ih (by omega))).2
  refine lp_upto (fun k => ((xs.take k).foldl f a0, (k : Int))) xs.length (by simp) (fun k hk => ?_) ?_
  · have := (h k hk _ (hp k (by omega))).1
    rw [this]; rw [take_succ_of hk, List.foldl_append]; rfl
  · exact he _ (by rw [List.take_length])
theorem lp_map {step : List β × Int → Option ((List β × Int) ⊕ O)} (xs : List α) (f : α → β) {o : O}
    (h : ∀ (k : Nat) (hk : k < xs.length) (l : List β), l.length = k → step (l, (k : Int)) = some (.inl (l ++ [f xs[k]], ((k + 1 : Nat) : Int))))
    (he : step (xs.map f, (xs.length : Int)) = some (.inr o)) : lp step ([], 0) = some o := by
  refine lp_upto (fun k => ((xs.take k).map f, (k : Int))) xs.length (by simp) (fun k hk => ?_) ?_
  · rw [h k hk _ (by simp; omega), take_succ_of hk, List.map_append]; rfl
  · rw [List.take_length]; exact he
theorem lp_allC {step : S → Option (S ⊕ O)} (f : Nat → S) (n : Nat) (p : Nat → Prop) (q : Prop) [Decidable q] {oT oF : O} (hq : q ↔ ∀ k, k < n → p k)
    (h1 : ∀ k, k < n → (∀ j, j < k → p j) → p k → step (f k) = some (.inl (f (k + 1)))) (h2 : ∀ k, k < n → (∀ j, j < k → p j) → ¬ p k → step (f k) = some (.inr oF))
    (h3 : (∀ k, k < n → p k) → step (f n) = some (.inr oT)) : lp step (f 0) = some (if q then oT else oF) := by
  by_cases h : q
  · rw [if_pos h]
    have ha := hq.1 h
    exact lp_up f n (fun k hk => h1 k hk (fun j hj => ha j (by omega)) (ha k hk)) (h3 ha)
  · rw [if_neg h]
    have hex : ∃ k, k < n ∧ ¬ p k := Classical.byContradiction fun hn => h (hq.2 fun k hk => Classical.byContradiction fun hp => hn ⟨k, hk, hp⟩)
    obtain ⟨m, ⟨hm, hp⟩, hl⟩ := least_of hex
    have hb : ∀ j, j < m → p j := fun j hj => Classical.byContradiction fun hn => by have := hl j ⟨by omega, hn⟩; omega
    exact lp_up f m (fun k hk => h1 k (by omega) (fun j hj => hb j (by omega)) (hb k hk)) (h2 m hm hb hp)
theorem lp_find {step : Int → Option (Int ⊕ (Unit ⊕ O))} (l : List α) (p : α → Bool) (f : Int → O) (h1 : ∀ (k : Nat) (hk : k < l.length), p l[k] = false → step (k : Int) = some (.inl ((k : Int) + 1)))
    (h2 : ∀ (k : Nat) (hk : k < l.length), p l[k] = true → step (k : Int) = some (.inr (.inr (f k)))) (h3 : step (l.length : Int) = some (.inr (.inl ()))) :
    lp step 0 = some (match l.findIdx? p with | some k => .inr (f (k : Int)) | none => .inl ()) := by
  cases e : l.findIdx? p with
  | none =>
    rw [List.findIdx?_eq_none_iff] at e
    refine lp_upto (fun k => (k : Int)) l.length (by simp) (fun k hk => ?_) h3
    rw [h1 k hk (e _ (List.getElem_mem hk))]; rfl
  | some k =>
    rw [List.findIdx?_eq_some_iff_getElem] at e
    obtain ⟨hk, hp, hb⟩ := e
    refine lp_upto (fun k => (k : Int)) k (by simp) (fun j hj => ?_) (h2 k hk hp)
    rw [h1 j (by omega) (by simpa using hb j hj)]; rfl
theorem find_any (l : List α) (p : α → Bool) : (match l.findIdx? p with | some k => some (decide ((0 : Int) ≤ (k : Int))) | none => some false) = some (l.any p) := by
  cases e : l.findIdx? p with
  | none =>
    rw [List.findIdx?_eq_none_iff] at e
    have : l.any p = false := by rw [List.any_eq_false]; intro x hx; simp [e x hx]
    rw [this]
  | some k =>
    rw [List.findIdx?_eq_some_iff_getElem] at e
    obtain ⟨hk, hp, _⟩ := e
    have : l.any p = true := List.any_eq_true.2 ⟨_, List.getElem_mem hk, hp⟩
    rw [this]; simp
end
end Go.Proofs.Ytnebbhginakaiaa

/- Loops of common kinds: over all elements, over two lists, copies. -/
namespace Go.Proofs.Ytnebbhginakaiaa
section
variable {α β : Type}
def eqStep (eq : α → α → Option Bool) (a b : List α) (i : Int) : Option (Int ⊕ (Unit ⊕ Bool)) :=
  if i < (a.length : Int) then idx a i (fun x => idx b i (fun y => cal (eq x y) (fun t => if ¬ (t = true) then some (.inr (.inr false)) else ck (i + 1) (fun _ => some (.inl (i + 1))))))
  else some (.inr (.inl ()))
theorem eq_loop [DecidableEq α] {step : Int → Option (Int ⊕ (Unit ⊕ Bool))} (a b : List α) (eq : α → α → Option Bool) (hs : ∀ i, step i = eqStep eq a b i) (hl : a.length ≤ 1099511627776)
    (hq : ∀ x ∈ a, ∀ y ∈ b, eq x y = some (decide (x = y))) : (if (a.length : Int) ≠ (b.length : Int) then some false else bnd (lp step 0) (fun _ => some true)) = some (decide (a = b)) := by
  by_cases hlen : a.length = b.length
  · rw [if_neg (by omega)]
    have key := lp_allB (step := step) (fun k => (k : Int)) a.length (fun k => a[k]? = b[k]?) (decide (a = b)) (g := fun t => if t then .inl () else .inr false) ?_ ?_ ?_ ?_
    · simp only [Int.natCast_zero] at key
      by_cases e : a = b
      · rw [decide_eq_true e] at key ⊢; rw [bnd_l key]
      · rw [decide_eq_false e] at key ⊢; rw [bnd_r key]
    · simp only [decide_eq_true_eq]
      refine ⟨fun h k _ => by rw [h], fun h => List.ext_getElem? fun k => ?_⟩
      by_cases hk : k < a.length
      · exact h k hk
      · rw [List.getElem?_eq_none (by omega), List.getElem?_eq_none (by omega)]
    · intro k hk hp
      have hk' : k < b.length := by omega
      have hp : a[k] = b[k] := by simpa [hk, hk'] using hp
      rw [hs]; unfold eqStep
      rw [if_pos (by omega), idx_nat hk, idx_nat hk', cal_of (hq _ (List.getElem_mem _) _ (List.getElem_mem _)), if_neg (by simp [hp]), ck_of (inI (by omega) (by omega))]; rfl
    · intro k hk hp
      have hk' : k < b.length := by omega
      have hp : ¬ a[k] = b[k] := by simpa [hk, hk'] using hp
      rw [hs]; unfold eqStep
      rw [if_pos (by omega), idx_nat hk, idx_nat hk', cal_of (hq _ (List.getElem_mem _) _ (List.getElem_mem _)), if_pos (by simp [hp])]; rfl
    · rw [hs]; unfold eqStep; rw [if_neg (by omega)]; rfl
  · rw [if_pos (by omega)]
    have : a ≠ b := fun e => hlen (by rw [e])
    simp [this]
def eqIStep [DecidableEq α] (a b : List α) (i : Int) : Option (Int ⊕ (Unit ⊕ Bool)) :=
  if i < (a.length : Int) then idx a i (fun x => idx b i (fun y => if x ≠ y then some (.inr (.inr false)) else ck (i + 1) (fun _ => some (.inl (i + 1)))))
  else some (.inr (.inl ()))
theorem eqI_loop [DecidableEq α] {step : Int → Option (Int ⊕ (Unit ⊕ Bool))} (a b : List α) (hs : ∀ i, step i = eqIStep a b i) (hl : a.length ≤ 1099511627776) :
    (if (a.length : Int) ≠ (b.length : Int) then some false else bnd (lp step 0) (fun _ => some true)) = some (decide (a = b)) := by
  refine eq_loop a b (fun x y => some (decide (x = y))) (fun i => ?_) hl (fun _ _ _ _ => rfl)
  rw [hs]; unfold eqIStep eqStep
  simp
def copyStep (q : α → Option β) (a : List α) (s : List β × Int) : Option ((List β × Int) ⊕ (List β ⊕ List β)) :=
  if s.2 < (a.length : Int) then idx a s.2 (fun x => cal (q x) (fun y => idx s.1 s.2 (fun _ => ck (s.2 + 1) (fun _ => some (.inl (s.1.set s.2.toNat y, s.2 + 1))))))
  else some (.inr (.inl s.1))
theorem copy_loop {step : List β × Int → Option ((List β × Int) ⊕ (List β ⊕ List β))} (a : List α) (z : β) (q : α → Option β) (f : α → β) (hs : ∀ s, step s = copyStep q a s) (hl : a.length ≤ 1099511627776)
    (hq : ∀ x ∈ a, q x = some (f x)) : mkS (a.length : Int) z (fun _ => bnd (lp step (List.replicate (a.length : Int).toNat z, 0)) (fun j => some j)) = some (a.map f) := by
  rw [mkS_of (by omega) (by unfold lim; omega)]
  have hloop : lp step (List.replicate (a.length : Int).toNat z, 0) = some (.inl (a.map f)) := by
    refine lp_upto (fun k => ((a.take k).map f ++ List.replicate (a.length - k) z, (k : Int))) a.length (by simp) (fun k hk => ?_) ?_
    · rw [hs]; unfold copyStep
      simp only
      rw [if_pos (by omega), idx_nat hk, cal_of (hq _ (List.getElem_mem _)), idx_nat (by simp; omega), ck_of (inI (by omega) (by omega))]
      refine inl_eq (pair_eq ?_ (by omega))
      rw [take_succ_of hk, List.map_append]
      obtain ⟨m, hm⟩ : ∃ m, a.length - k = m + 1 := ⟨a.length - k - 1, by omega⟩
      rw [hm, List.replicate_succ, show a.length - (k + 1) = m by omega, Int.toNat_natCast, set_app rfl (by simp; omega), List.append_assoc]
      rfl
    · rw [hs]; unfold copyStep; simp only
      rw [if_neg (by omega)]; simp
  rw [bnd_l hloop]
end
end Go.Proofs.Ytnebbhginakaiaa

/- The laws' helpers on sizes: what is left of a budget. -/
namespace Go.Proofs.Ytnebbhginakaiaa
def less (n m : Int) : Int := if n - m < 0 then -1 else n - m
theorem less_neg {n m : Int} : less n m < 0 ↔ n < m := by unfold less; split <;> omega
theorem less_of {n m : Int} (h : m ≤ n) : less n m = n - m := by unfold less; rw [if_neg (by omega)]
theorem inI_less {n : Int} {m : Nat} (h0 : 0 ≤ n) (h1 : n ≤ 1048576) (hm : m ≤ 9223372036854775807) : InI (n - m) := by unfold InI; omega
theorem szInt64S_eq (a : List Int) (n : Int) (h0 : 0 ≤ n) (h1 : n ≤ 1048576) (ha : Sz.ok a) : F_laws_szInt64S a n = some (less n a.length) := by
  unfold F_laws_szInt64S
  rw [ck_of (inI_less h0 h1 ha.1)]
  unfold less; split <;> rfl
theorem szInt64SS_eq (a : List (List Int)) (n : Int) (h0 : 0 ≤ n) (h1 : n ≤ 1048576) (ha : Sz.ok a) :
    ∃ m, F_laws_szInt64SS a n = some m ∧ (m < 0 ∨ (0 ≤ m ∧ m ≤ n ∧ a.length ≤ 1048576 ∧ ∀ x ∈ a, x.length ≤ 1048576)) := by
  unfold F_laws_szInt64SS
  rw [ck_of (inI_less h0 h1 ha.1)]
  by_cases hn : n - (a.length : Int) < 0
  · exact ⟨-1, by rw [if_pos hn], .inl (by decide)⟩
  rw [if_neg hn]
  have key : ∀ (j k : Nat) (m : Int), k + j = a.length → 0 ≤ m → m ≤ n → (∀ (i : Nat) (h : i < a.length), i < k → a[i].length ≤ 1048576) →
      (∃ m', lp (fun s => F_laws_szInt64SS_l1 a s.1 s.2) (m, (k : Int)) = some (.inr m') ∧ m' < 0) ∨
      (∃ m', lp (fun s => F_laws_szInt64SS_l1 a s.1 s.2) (m, (k : Int)) = some (.inl m') ∧ 0 ≤ m' ∧ m' ≤ n ∧ ∀ (i : Nat) (h : i < a.length), a[i].length ≤ 1048576) := by
    intro j
    induction j with
    | zero =>
      intro k m hk hm hmn hall
      refine .inr ⟨m, ?_, hm, hmn, fun i h => hall i h (by omega)⟩
      rw [lp_unfold]
      simp only [F_laws_szInt64SS_l1]
      rw [if_neg (by omega)]
    | succ j ih =>
      intro k m hk hm hmn hall
      have hka : k < a.length := by omega
      have hs := szInt64S_eq a[k] m hm (by omega) (ha.2 _ (List.getElem_mem _))
      by_cases hl : less m (a[k].length : Int) < 0
      · refine .inl ⟨-1, ?_, by decide⟩
        rw [lp_unfold]
        simp only [F_laws_szInt64SS_l1]
        rw [if_pos (by omega), idx_nat hka, cal_of hs, if_pos hl]
      · have hle : (a[k].length : Int) ≤ m := by have := less_neg (n := m) (m := (a[k].length : Int)); omega
        have he := less_of hle
        have hstep : F_laws_szInt64SS_l1 a m (k : Int) = some (.inl (m - (a[k].length : Int), ((k + 1 : Nat) : Int))) := by
          simp only [F_laws_szInt64SS_l1]
          rw [if_pos (by omega), idx_nat hka, cal_of hs, if_neg hl, ck_of (inI (by omega) (by omega)), he]; rfl
        have := ih (k + 1) (m - (a[k].length : Int)) (by omega) (by omega) (by omega) (fun i h hi => by
          by_cases e : i = k
          · subst e; omega
          · exact hall i h (by omega))
        rw [lp_unfold]
        simp only [hstep]
        exact this
  rcases key a.length 0 (n - a.length) (by omega) (by omega) (by omega) (fun i h hi => by omega) with ⟨m', h1, h2⟩ | ⟨m', h1, h2, h3, h4⟩
  · rw [Int.natCast_zero] at h1
    exact ⟨m', by rw [bnd_r h1], .inl h2⟩
  · rw [Int.natCast_zero] at h1
    refine ⟨m', ?_, .inr ⟨h2, h3, by omega, fun x hx => ?_⟩⟩
    · rw [bnd_l h1]; rfl
    · obtain ⟨i, hi, rfl⟩ := List.getElem_of_mem hx
      exact h4 i hi
end Go.Proofs.Ytnebbhginakaiaa

/- The laws' helpers: copies and comparisons. -/
namespace Go.Proofs.Ytnebbhginakaiaa
theorem toInt64S_eq (a : List Int) (h : a.length ≤ 1099511627776) : F_laws_toInt64S a = some a := by
  unfold F_laws_toInt64S
  have := copy_loop (step := fun s => F_laws_toInt64S_l1 a s.1 s.2) a (0 : Int) some id (fun _ => rfl) h (fun _ _ => rfl)
  rw [List.map_id] at this; exact this
theorem toInt64SS_eq (a : List (List Int)) (h : a.length ≤ 1099511627776) (h' : ∀ x ∈ a, x.length ≤ 1099511627776) : F_laws_toInt64SS a = some a := by
  unfold F_laws_toInt64SS
  have := copy_loop (step := fun s => F_laws_toInt64SS_l1 a s.1 s.2) a ([] : List Int) F_laws_toInt64S id (fun _ => rfl) h (fun x hx => toInt64S_eq x (h' x hx))
  rw [List.map_id] at this; exact this
theorem eqInt64S_eq (a b : List Int) (h : a.length ≤ 1099511627776) : F_laws_eqInt64S a b = some (decide (a = b)) := by
  unfold F_laws_eqInt64S
  exact eqI_loop (step := fun s => F_laws_eqInt64S_l1 a b s) a b (fun _ => rfl) h
theorem eqInt64SS_eq (a b : List (List Int)) (h : a.length ≤ 1099511627776) (h' : ∀ x ∈ a, x.length ≤ 1099511627776) : F_laws_eqInt64SS a b = some (decide (a = b)) := by
  unfold F_laws_eqInt64SS
  exact eq_loop (step := fun s => F_laws_eqInt64SS_l1 a b s) a b F_laws_eqInt64S (fun _ => rfl) h (fun x hx y _ => eqInt64S_eq x y (h' x hx))
theorem l1Same_eq (a b : List Int) (h : a.length ≤ 1099511627776) : F_spec_l1Same a b = some (decide (a = b)) := by
  unfold F_spec_l1Same
  exact eqI_loop (step := fun s => F_spec_l1Same_l1 a b s) a b (fun _ => rfl) h
end Go.Proofs.Ytnebbhginakaiaa

/- Is a number within bounds. -/
namespace Go.Proofs.Ytnebbhginakaiaa
theorem in_eq (x a b : Int) : (if a ≤ x then some (decide (x ≤ b)) else some false) = some (decide (a ≤ x ∧ x ≤ b)) := by
  by_cases h : a ≤ x
  · rw [if_pos h]; simp [h]
  · rw [if_neg h]; simp [h]
theorem l1In_eq (x a b : Int) : F_spec_l1In x a b = some (decide (a ≤ x ∧ x ≤ b)) := in_eq x a b
theorem inRange_eq (x a b : Int) : F_impl_inRange x a b = some (decide (a ≤ x ∧ x ≤ b)) := in_eq x a b
end Go.Proofs.Ytnebbhginakaiaa

/- Graphs by their rows of neighbours: what the checks of spec and impl say. -/
namespace Go.Proofs.Ytnebbhginakaiaa
theorem lp_for {O : Type} {step : Int → Option (Int ⊕ O)} (n : Nat) (p : Nat → Prop) (q : Prop) [Decidable q] {oT oF : O} (hq : q ↔ ∀ k, k < n → p k)
    (h1 : ∀ k, k < n → p k → step (k : Int) = some (.inl ((k : Int) + 1))) (h2 : ∀ k, k < n → ¬ p k → step (k : Int) = some (.inr oF)) (he : step (n : Int) = some (.inr oT)) :
    lp step 0 = some (if q then oT else oF) := by
  have := lp_allB (step := step) (fun k => (k : Int)) n p (decide q) (g := fun t => if t then oT else oF) (by simpa using hq) (fun k hk hp => by rw [h1 k hk hp]; rfl) h2 he
  simpa using this
def Rises (s : List Int) (n : Int) : Prop := ∀ (k : Nat) (h : k < s.length), 0 ≤ s[k] ∧ s[k] ≤ n - 1 ∧ (0 < k → s[k - 1] < s[k])
theorem Rises.ge {s : List Int} {n : Int} (h : Rises s n) : ∀ (k : Nat) (hk : k < s.length), (k : Int) ≤ s[k]
  | 0, hk => (h 0 hk).1
  | k + 1, hk => by
    have h1 := Rises.ge h k (by omega)
    have h2 := (h (k + 1) hk).2.2 (by omega)
    simp only [Nat.add_sub_cancel] at h2
    omega
theorem Rises.len {s : List Int} {n : Int} (h : Rises s n) (h0 : 0 ≤ n) : (s.length : Int) ≤ n := by
  rcases Nat.eq_zero_or_pos s.length with e | e
  · omega
  · have h1 := h.ge (s.length - 1) (by omega)
    have h2 := (h (s.length - 1) (by omega)).2.1
    omega
theorem Rises.mem {s : List Int} {n x : Int} (h : Rises s n) (hx : x ∈ s) : 0 ≤ x ∧ x < n := by
  obtain ⟨k, hk, rfl⟩ := List.getElem_of_mem hx
  have := h k hk
  omega
open Classical in
theorem increasing_eq (s : List Int) (n : Int) (hs : s.length ≤ 1099511627776) (h0 : 0 ≤ n) (h1 : n ≤ 1099511627776) : F_impl_increasing s n = some (decide (Rises s n)) := by
  unfold F_impl_increasing
  have key := lp_for (step := fun i => F_impl_increasing_l1 s n i) s.length (fun k => ∀ h : k < s.length, 0 ≤ s[k] ∧ s[k] ≤ n - 1 ∧ (0 < k → s[k - 1] < s[k])) (Rises s n) (oT := .inl ()) (oF := .inr false)
    ⟨fun h k _ => h k, fun h k hk => h k hk hk⟩ (fun k hk hp => ?_) (fun k hk hp => ?_) ?_
  · rw [key]; by_cases h : Rises s n <;> simp [h, F_impl_increasing_k2, bnd]
  · have hp := hp hk
    simp only [F_impl_increasing_l1]
    rw [if_pos (by omega), idx_nat hk, ck_of (inI (by omega) (by omega)), cal_of (inRange_eq _ _ _), if_neg (by simp; omega)]
    by_cases h : 0 < k
    · rw [if_pos (by omega), ck_of (inI (by omega) (by omega)), show (k : Int) - 1 = ((k - 1 : Nat) : Int) by omega, idx_nat (by omega), if_neg (by have := hp.2.2 h; omega), ck_of (inI (by omega) (by omega))]
    · rw [if_neg (by omega), ck_of (inI (by omega) (by omega))]
  · have hp : ¬ (0 ≤ s[k] ∧ s[k] ≤ n - 1 ∧ (0 < k → s[k - 1] < s[k])) := fun h => hp fun _ => h
    simp only [F_impl_increasing_l1]
    rw [if_pos (by omega), idx_nat hk, ck_of (inI (by omega) (by omega)), cal_of (inRange_eq _ _ _)]
    by_cases h : 0 ≤ s[k] ∧ s[k] ≤ n - 1
    · have h2 : 0 < k ∧ s[k] ≤ s[k - 1] := by
        by_cases h3 : 0 < k
        · refine ⟨h3, ?_⟩
          by_cases h4 : s[k - 1] < s[k]
          · exact absurd ⟨h.1, h.2, fun _ => h4⟩ hp
          · omega
        · exact absurd ⟨h.1, h.2, fun h4 => absurd h4 h3⟩ hp
      rw [if_neg (by simp; omega), if_pos (by omega), ck_of (inI (by omega) (by omega)), show (k : Int) - 1 = ((k - 1 : Nat) : Int) by omega, idx_nat (by omega), if_pos h2.2]
    · rw [if_pos (by simpa using h)]
  · simp only [F_impl_increasing_l1]; rw [if_neg (by omega)]
open Classical in
theorem l1Set_eq (s : List Int) (n : Int) (hs : s.length ≤ 1099511627776) (h0 : 0 ≤ n) (h1 : n ≤ 1099511627776) : F_spec_l1Set s n = some (decide (Rises s n)) := by
  unfold F_spec_l1Set
  by_cases hl : n < (s.length : Int)
  · rw [if_pos hl, decide_eq_false]
    intro h; have := h.len h0; omega
  rw [if_neg hl]
  have key := lp_for (step := fun i => F_spec_l1Set_l1 s n i) s.length (fun k => ∀ h : k < s.length, 0 ≤ s[k] ∧ s[k] ≤ n - 1 ∧ (0 < k → s[k - 1] < s[k])) (Rises s n) (oT := .inl ()) (oF := .inr false)
    ⟨fun h k _ => h k, fun h k hk => h k hk hk⟩ (fun k hk hp => ?_) (fun k hk hp => ?_) ?_
  · rw [key]; by_cases h : Rises s n <;> simp [h, F_spec_l1Set_k2, bnd]
  · have hp := hp hk
    simp only [F_spec_l1Set_l1]
    rw [if_pos (by omega), idx_nat hk, ck_of (inI (by omega) (by omega)), cal_of (l1In_eq _ _ _), if_neg (by simp; omega)]
    by_cases h : 0 < k
    · rw [if_pos (by omega), idx_nat hk, ck_of (inI (by omega) (by omega)), show (k : Int) - 1 = ((k - 1 : Nat) : Int) by omega, idx_nat (by omega), if_neg (by have := hp.2.2 h; omega), ck_of (inI (by omega) (by omega))]
    · rw [if_neg (by omega), ck_of (inI (by omega) (by omega))]
  · have hp : ¬ (0 ≤ s[k] ∧ s[k] ≤ n - 1 ∧ (0 < k → s[k - 1] < s[k])) := fun h => hp fun _ => h
    simp only [F_spec_l1Set_l1]
    rw [if_pos (by omega), idx_nat hk, ck_of (inI (by omega) (by omega)), cal_of (l1In_eq _ _ _)]
    by_cases h : 0 ≤ s[k] ∧ s[k] ≤ n - 1
    · have h2 : 0 < k ∧ s[k] ≤ s[k - 1] := by
        by_cases h3 : 0 < k
        · refine ⟨h3, ?_⟩
          by_cases h4 : s[k - 1] < s[k]
          · exact absurd ⟨h.1, h.2, fun _ => h4⟩ hp
          · omega
        · exact absurd ⟨h.1, h.2, fun h4 => absurd h4 h3⟩ hp
      rw [if_neg (by simp; omega), if_pos (by omega), idx_nat hk, ck_of (inI (by omega) (by omega)), show (k : Int) - 1 = ((k - 1 : Nat) : Int) by omega, idx_nat (by omega), if_pos h2.2]
    · rw [if_pos (by simpa using h)]
  · simp only [F_spec_l1Set_l1]; rw [if_neg (by omega)]
theorem l1Has_eq (s : List Int) (x : Int) (hs : s.length ≤ 1099511627776) : F_spec_l1Has s x = some (decide (x ∈ s)) := by
  unfold F_spec_l1Has
  have key := lp_for (step := fun i => F_spec_l1Has_l1 s x i) s.length (fun k => ∀ h : k < s.length, s[k] ≠ x) (¬ x ∈ s) (oT := .inl ()) (oF := .inr true)
    ⟨fun h k _ hk e => h (by rw [← e]; exact List.getElem_mem hk), fun h hm => by obtain ⟨k, hk, e⟩ := List.getElem_of_mem hm; exact h k hk hk e⟩ (fun k hk hp => ?_) (fun k hk hp => ?_) ?_
  · rw [key]; by_cases h : x ∈ s <;> simp [h, F_spec_l1Has_k2, bnd]
  · simp only [F_spec_l1Has_l1]
    rw [if_pos (by omega), idx_nat hk, if_neg (hp hk), ck_of (inI (by omega) (by omega))]
  · have hp : s[k] = x := by
      by_cases e : s[k] = x
      · exact e
      · exact absurd (fun _ => e) hp
    simp only [F_spec_l1Has_l1]
    rw [if_pos (Int.ofNat_lt.2 hk), idx_nat hk, if_pos hp]
  · simp only [F_spec_l1Has_l1]; rw [if_neg (by omega)]
theorem contains_eq (s : List Int) (x : Int) (hs : s.length ≤ 1099511627776) : F_slices_Contains_int64 s x = some (decide (x ∈ s)) := by
  unfold F_slices_Contains_int64 F_slices_Index_int64
  by_cases hx : x ∈ s
  · have hi : s.idxOf x < s.length := List.idxOf_lt_length_iff.2 hx
    have key : lp (fun i => F_slices_Index_int64_l1 s x i) 0 = some (.inr (s.idxOf x : Int)) := by
      refine lp_upto (fun k => (k : Int)) (s.idxOf x) (by simp) (fun k hk => ?_) ?_
      · simp only [F_slices_Index_int64_l1]
        have hk' : k < s.length := by omega
        have := ne_of_lt_idxOf hk hk'
        rw [if_pos (by omega), idx_nat hk', if_neg (Ne.symm this), ck_of (inI (by omega) (by omega))]; rfl
      · simp only [F_slices_Index_int64_l1]
        rw [if_pos (by omega), idx_nat hi, if_pos (by simp)]
    rw [bnd_r key, cal_some_eq]; simp [hx]
  · have key : lp (fun i => F_slices_Index_int64_l1 s x i) 0 = some (.inl ()) := by
      refine lp_upto (fun k => (k : Int)) s.length (by simp) (fun k hk => ?_) ?_
      · simp only [F_slices_Index_int64_l1]
        rw [if_pos (by omega), idx_nat hk, if_neg (fun e => hx (by rw [e]; exact List.getElem_mem hk)), ck_of (inI (by omega) (by omega))]; rfl
      · simp only [F_slices_Index_int64_l1]; rw [if_neg (by omega)]
    rw [bnd_l key]; simp [F_slices_Index_int64_k2, hx]
structure GOk (g : List (List Int)) : Prop where
  n1 : 1 ≤ g.length
  n16 : g.length ≤ 16
  rows : ∀ (v : Nat) (h : v < g.length), Rises g[v] g.length ∧ (v : Int) ∉ g[v]
  sym : ∀ (v : Nat) (h : v < g.length), ∀ w ∈ g[v], ∀ (hw : w.toNat < g.length), (v : Int) ∈ g[w.toNat]
open Classical in
theorem bnd_if {A : Type} {q : Prop} [Decidable q] {x : Unit} {y : A} {k : Unit → Option A} : bnd (some (if q then .inl x else .inr y)) k = if q then k x else some y := by split <;> rfl
open Classical in
theorem specGraph_inner (g : List (List Int)) (hl : ∀ x ∈ g, x.length ≤ 1048576) (hr : ∀ (v : Nat) (h : v < g.length), Rises g[v] g.length ∧ (v : Int) ∉ g[v]) (k : Nat) (hk : k < g.length) :
    lp (fun s => F_spec_GraphOk_l4 g (k : Int) s) 0 = some (if ∀ w ∈ g[k], ∀ (hw : w.toNat < g.length), (k : Int) ∈ g[w.toNat] then .inl () else .inr (.inr (.inr false))) := by
  have hlk := hl _ (List.getElem_mem hk)
  refine lp_for g[k].length (fun j => ∀ (hj : j < g[k].length) (hw : (g[k][j]).toNat < g.length), (k : Int) ∈ g[(g[k][j]).toNat]) _ ⟨fun h j _ hj hw => h _ (List.getElem_mem hj) hw, fun h w hw => ?_⟩ (fun j hj hp => ?_) (fun j hj hp => ?_) ?_
  · obtain ⟨j, hj, rfl⟩ := List.getElem_of_mem hw
    exact h j hj hj
  · have hm := (hr k hk).1.mem (List.getElem_mem hj)
    obtain ⟨m, hm2⟩ := Int.eq_ofNat_of_zero_le hm.1
    have hmg : m < g.length := by omega
    have hp := hp hj (by omega)
    have hl2 := hl _ (List.getElem_mem hmg)
    simp only [F_spec_GraphOk_l4]
    rw [idx_nat hk, if_pos (by omega), idx_nat hk, idx_nat hj, hm2, idx_nat hmg, cal_of (l1Has_eq _ _ (by omega))]
    simp only [hm2, Int.toNat_natCast] at hp
    rw [if_neg (by simp [hp]), ck_of (inI (by omega) (by omega))]
  · have hm := (hr k hk).1.mem (List.getElem_mem hj)
    obtain ⟨m, hm2⟩ := Int.eq_ofNat_of_zero_le hm.1
    have hmg : m < g.length := by omega
    have hl2 := hl _ (List.getElem_mem hmg)
    have hp : ¬ (k : Int) ∈ g[m] := fun h => hp fun _ hw => by simp only [hm2, Int.toNat_natCast]; exact h
    simp only [F_spec_GraphOk_l4]
    rw [idx_nat hk, if_pos (by omega), idx_nat hk, idx_nat hj, hm2, idx_nat hmg, cal_of (l1Has_eq _ _ (by omega)), if_pos (by simp [hp])]
  · simp only [F_spec_GraphOk_l4]; rw [idx_nat hk, if_neg (by omega)]
open Classical in
theorem specGraphOk_eq (g : List (List Int)) (hl : ∀ x ∈ g, x.length ≤ 1048576) : F_spec_GraphOk g = some (decide (GOk g)) := by
  unfold F_spec_GraphOk F_spec_l1Size
  rw [cal_some_eq, cal_of (l1In_eq _ _ _)]
  by_cases hn : 1 ≤ g.length ∧ g.length ≤ 16
  case neg =>
    rw [if_pos (by simp; omega), decide_eq_false]
    exact fun h => hn ⟨h.n1, h.n16⟩
  rw [if_neg (by simp; omega)]
  have key := lp_for (step := fun i => F_spec_GraphOk_l1 g (g.length : Int) i) g.length (fun v => ∀ h : v < g.length, Rises g[v] g.length ∧ (v : Int) ∉ g[v]) (∀ (v : Nat) (h : v < g.length), Rises g[v] g.length ∧ (v : Int) ∉ g[v])
    (oT := .inl ()) (oF := .inr false) ⟨fun h k _ => h k, fun h k hk => h k hk hk⟩ (fun k hk hp => ?_) (fun k hk hp => ?_) ?_
  · rw [key, bnd_if]
    by_cases hr : ∀ (v : Nat) (h : v < g.length), Rises g[v] g.length ∧ (v : Int) ∉ g[v]
    case neg =>
      rw [if_neg hr, decide_eq_false]
      exact fun h => hr h.rows
    rw [if_pos hr]
    unfold F_spec_GraphOk_k2
    have key2 := lp_for (step := fun i => F_spec_GraphOk_l3 g (g.length : Int) i) g.length (fun v => ∀ h : v < g.length, ∀ w ∈ g[v], ∀ (hw : w.toNat < g.length), (v : Int) ∈ g[w.toNat])
      (∀ (v : Nat) (h : v < g.length), ∀ w ∈ g[v], ∀ (hw : w.toNat < g.length), (v : Int) ∈ g[w.toNat])
      (oT := .inl ()) (oF := .inr false) ⟨fun h k _ => h k, fun h k hk => h k hk hk⟩ ?_ ?_ ?_
    · rw [key2, bnd_if]
      by_cases hs : ∀ (v : Nat) (h : v < g.length), ∀ w ∈ g[v], ∀ (hw : w.toNat < g.length), (v : Int) ∈ g[w.toNat]
      · rw [if_pos hs, decide_eq_true ⟨hn.1, hn.2, hr, hs⟩]; rfl
      · rw [if_neg hs, decide_eq_false]
        exact fun h => hs h.sym
    · intro k hk hp
      have hp := hp hk
      simp only [F_spec_GraphOk_l3]
      rw [if_pos (by omega), specGraph_inner g hl hr k hk, if_pos hp, bnd_inl_eq]
      unfold F_spec_GraphOk_k5
      rw [ck_of (inI (by omega) (by omega))]
    · intro k hk hp
      have hp : ¬ ∀ w ∈ g[k], ∀ (hw : w.toNat < g.length), (k : Int) ∈ g[w.toNat] := fun h => hp fun _ => h
      simp only [F_spec_GraphOk_l3]
      rw [if_pos (by omega), specGraph_inner g hl hr k hk, if_neg hp, bnd_inr_eq]
    · simp only [F_spec_GraphOk_l3]; rw [if_neg (by omega)]
  · have hp := hp hk
    have hlk := hl _ (List.getElem_mem hk)
    simp only [F_spec_GraphOk_l1]
    rw [if_pos (by omega), idx_nat hk, cal_of (l1Set_eq _ _ (by omega) (by omega) (by omega)), if_neg (by simp [hp.1]), idx_nat hk, cal_of (l1Has_eq _ _ (by omega)), if_neg (by simp [hp.2]), ck_of (inI (by omega) (by omega))]
  · have hp : ¬ (Rises g[k] g.length ∧ (k : Int) ∉ g[k]) := fun h => hp fun _ => h
    have hlk := hl _ (List.getElem_mem hk)
    simp only [F_spec_GraphOk_l1]
    rw [if_pos (by omega), idx_nat hk, cal_of (l1Set_eq _ _ (by omega) (by omega) (by omega))]
    by_cases h : Rises g[k] g.length
    · have h2 : (k : Int) ∈ g[k] := Classical.byContradiction fun h2 => hp ⟨h, h2⟩
      rw [if_neg (by simp [h]), idx_nat hk, cal_of (l1Has_eq _ _ (by omega)), if_pos (by simp [h2])]
    · rw [if_pos (by simp [h])]
  · simp only [F_spec_GraphOk_l1]; rw [if_neg (by omega)]

open Classical in
theorem implGraph_inner (g : List (List Int)) (hl : ∀ x ∈ g, x.length ≤ 1048576) (hr : ∀ (v : Nat) (h : v < g.length), Rises g[v] g.length ∧ (v : Int) ∉ g[v]) (k : Nat) (hk : k < g.length) :
    lp (fun s => F_impl_GraphOk_l4 g (k : Int) g[k] s) 0 = some (if ∀ w ∈ g[k], ∀ (hw : w.toNat < g.length), (k : Int) ∈ g[w.toNat] then .inl () else .inr (.inr (.inr false))) := by
  have hlk := hl _ (List.getElem_mem hk)
  refine lp_for g[k].length (fun j => ∀ (hj : j < g[k].length) (hw : (g[k][j]).toNat < g.length), (k : Int) ∈ g[(g[k][j]).toNat]) _ ⟨fun h j _ hj hw => h _ (List.getElem_mem hj) hw, fun h w hw => ?_⟩ (fun j hj hp => ?_) (fun j hj hp => ?_) ?_
  · obtain ⟨j, hj, rfl⟩ := List.getElem_of_mem hw
    exact h j hj hj
  · have hm := (hr k hk).1.mem (List.getElem_mem hj)
    obtain ⟨m, hm2⟩ := Int.eq_ofNat_of_zero_le hm.1
    have hmg : m < g.length := by omega
    have hp := hp hj (by omega)
    have hl2 := hl _ (List.getElem_mem hmg)
    simp only [F_impl_GraphOk_l4]
    rw [if_pos (by omega), idx_nat hj, hm2, idx_nat hmg, cal_of (contains_eq _ _ (by omega))]
    simp only [hm2, Int.toNat_natCast] at hp
    rw [if_neg (by simp [hp]), ck_of (inI (by omega) (by omega))]
  · have hm := (hr k hk).1.mem (List.getElem_mem hj)
    obtain ⟨m, hm2⟩ := Int.eq_ofNat_of_zero_le hm.1
    have hmg : m < g.length := by omega
    have hl2 := hl _ (List.getElem_mem hmg)
    have hp : ¬ (k : Int) ∈ g[m] := fun h => hp fun _ hw => by simp only [hm2, Int.toNat_natCast]; exact h
    simp only [F_impl_GraphOk_l4]
    rw [if_pos (by omega), idx_nat hj, hm2, idx_nat hmg, cal_of (contains_eq _ _ (by omega)), if_pos (by simp [hp])]
  · simp only [F_impl_GraphOk_l4]; rw [if_neg (by omega)]
open Classical in
theorem implGraphOk_eq (g : List (List Int)) (hg : g.length ≤ 1048576) (hl : ∀ x ∈ g, x.length ≤ 1048576) : F_impl_GraphOk g = some (decide (GOk g)) := by
  unfold F_impl_GraphOk
  by_cases hn : 1 ≤ g.length ∧ g.length ≤ 16
  case neg =>
    rw [decide_eq_false (fun h : GOk g => hn ⟨h.n1, h.n16⟩)]
    by_cases h1 : (g.length : Int) < 1
    · rw [if_pos h1]
    · rw [if_neg h1, if_pos (by omega)]
  rw [if_neg (by omega), if_neg (by omega)]
  have key := lp_for (step := fun i => F_impl_GraphOk_l1 g i) g.length (fun v => ∀ h : v < g.length, Rises g[v] g.length ∧ (v : Int) ∉ g[v]) (∀ (v : Nat) (h : v < g.length), Rises g[v] g.length ∧ (v : Int) ∉ g[v])
    (oT := .inl ()) (oF := .inr false) ⟨fun h k _ => h k, fun h k hk => h k hk hk⟩ (fun k hk hp => ?_) (fun k hk hp => ?_) ?_
  · rw [key, bnd_if]
    by_cases hr : ∀ (v : Nat) (h : v < g.length), Rises g[v] g.length ∧ (v : Int) ∉ g[v]
    case neg =>
      rw [if_neg hr, decide_eq_false]
      exact fun h => hr h.rows
    rw [if_pos hr]
    unfold F_impl_GraphOk_k2
    have key2 := lp_for (step := fun i => F_impl_GraphOk_l3 g i) g.length (fun v => ∀ h : v < g.length, ∀ w ∈ g[v], ∀ (hw : w.toNat < g.length), (v : Int) ∈ g[w.toNat])
      (∀ (v : Nat) (h : v < g.length), ∀ w ∈ g[v], ∀ (hw : w.toNat < g.length), (v : Int) ∈ g[w.toNat])
      (oT := .inl ()) (oF := .inr false) ⟨fun h k _ => h k, fun h k hk => h k hk hk⟩ ?_ ?_ ?_
    · rw [key2, bnd_if]
      by_cases hs : ∀ (v : Nat) (h : v < g.length), ∀ w ∈ g[v], ∀ (hw : w.toNat < g.length), (v : Int) ∈ g[w.toNat]
      · rw [if_pos hs, decide_eq_true ⟨hn.1, hn.2, hr, hs⟩]; rfl
      · rw [if_neg hs, decide_eq_false]
        exact fun h => hs h.sym
    · intro k hk hp
      have hp := hp hk
      simp only [F_impl_GraphOk_l3]
      rw [if_pos (by omega), idx_nat hk, implGraph_inner g hl hr k hk, if_pos hp, bnd_inl_eq]
      unfold F_impl_GraphOk_k5
      rw [ck_of (inI (by omega) (by omega))]
    · intro k hk hp
      have hp : ¬ ∀ w ∈ g[k], ∀ (hw : w.toNat < g.length), (k : Int) ∈ g[w.toNat] := fun h => hp fun _ => h
      simp only [F_impl_GraphOk_l3]
      rw [if_pos (by omega), idx_nat hk, implGraph_inner g hl hr k hk, if_neg hp, bnd_inr_eq]
    · simp only [F_impl_GraphOk_l3]; rw [if_neg (by omega)]
  · have hp := hp hk
    have hlk := hl _ (List.getElem_mem hk)
    simp only [F_impl_GraphOk_l1]
    rw [if_pos (by omega), idx_nat hk, cal_of (increasing_eq _ _ (by omega) (by omega) (by omega)), if_neg (by simp [hp.1]), cal_of (contains_eq _ _ (by omega)), if_neg (by simp [hp.2]), ck_of (inI (by omega) (by omega))]
  · have hp : ¬ (Rises g[k] g.length ∧ (k : Int) ∉ g[k]) := fun h => hp fun _ => h
    have hlk := hl _ (List.getElem_mem hk)
    simp only [F_impl_GraphOk_l1]
    rw [if_pos (by omega), idx_nat hk, cal_of (increasing_eq _ _ (by omega) (by omega) (by omega))]
    by_cases h : Rises g[k] g.length
    · have h2 : (k : Int) ∈ g[k] := Classical.byContradiction fun h2 => hp ⟨h, h2⟩
      rw [if_neg (by simp [h]), cal_of (contains_eq _ _ (by omega)), if_pos (by simp [h2])]
    · rw [if_pos (by simp [h])]
  · simp only [F_impl_GraphOk_l1]; rw [if_neg (by omega)]
end Go.Proofs.Ytnebbhginakaiaa

/- Sets of vertices in the program (32 bits) and in the reference (64 bits with a sign): both are the same natural number. -/
namespace Go.Proofs.Ytnebbhginakaiaa
def ints (l : List Nat) : List Int := l.map fun (v : Nat) => (v : Int)
def bvs (l : List Nat) : List (BitVec 32) := l.map (BitVec.ofNat 32)
def nb (g : List (List Int)) : List Nat := g.map mk
theorem bvs_len (l : List Nat) : (bvs l).length = l.length := by simp [bvs]
theorem nb_len (g : List (List Int)) : (nb g).length = g.length := by simp [nb]
theorem bvs_get {l : List Nat} {k : Nat} (h : k < (bvs l).length) : (bvs l)[k] = BitVec.ofNat 32 (l[k]'(by simpa [bvs] using h)) := by simp [bvs]
theorem idx_bvs {β : Type} {l : List Nat} {k : Nat} {f : BitVec 32 → Option β} (h : k < l.length) : idx (bvs l) (k : Int) f = f (BitVec.ofNat 32 l[k]) := by
  rw [idx_nat (by rw [bvs_len]; exact h), bvs_get]
/-! ## good graphs -/
theorem GOk.row_mem {g : List (List Int)} (hg : GOk g) {v : Nat} (h : v < g.length) {x : Int} (hx : x ∈ g[v]) : 0 ≤ x ∧ x < g.length := (hg.rows v h).1.mem hx
theorem nb_lt {g : List (List Int)} (hg : GOk g) {v : Nat} (h : v < (nb g).length) : (nb g)[v] < 2 ^ g.length := by
  have h' : v < g.length := by rwa [nb_len] at h
  have : (nb g)[v] = mk g[v] := by simp [nb]
  rw [this]
  exact mk_lt fun x hx => hg.row_mem h' hx
theorem pow16 {n : Nat} (h : n ≤ 16) : 2 ^ n ≤ 2 ^ 16 := Nat.pow_le_pow_right (by decide) h
theorem nb_lt16 {g : List (List Int)} (hg : GOk g) {v : Nat} (h : v < (nb g).length) : (nb g)[v] < 2 ^ 16 := Nat.lt_of_lt_of_le (nb_lt hg h) (pow16 hg.n16)
theorem Rises.lt {s : List Int} {n : Nat} (h : Rises s n) : mk s < 2 ^ n := mk_lt fun v hv => by have := h.mem hv; omega
theorem GOk.row_len {g : List (List Int)} (hg : GOk g) {v : Nat} (h : v < g.length) : g[v].length ≤ 16 := by
  have h1 := (hg.rows v h).1.len (by omega)
  have h2 := hg.n16
  omega
theorem Rises.len16 {s : List Int} {n : Nat} (h : Rises s n) (hn : n ≤ 16) : s.length ≤ 16 := by have := h.len (by omega); omega
theorem one_eq {v : Nat} (h : v < 32) : F_impl_one (v : Int) = some (BitVec.ofNat 32 (2 ^ v)) := by
  unfold F_impl_one; rw [grd_of (Int.natCast_nonneg _), Int.toNat_natCast, bv_shl h]
theorem maskOf_eq {s : List Int} (h : ∀ v ∈ s, 0 ≤ v ∧ v < 32) (hl : s.length ≤ 1048576) : F_impl_maskOf s = some (BitVec.ofNat 32 (mk s)) := by
  unfold F_impl_maskOf
  have key := lp_fold (step := fun s' => F_impl_maskOf_l1 s s'.1 s'.2) s (fun b v => b ||| BitVec.ofNat 32 (2 ^ v.toNat)) 0#32 (fun _ => True) (o := .inl (BitVec.ofNat 32 (mk s))) trivial (fun k hk a _ => ⟨?_, trivial⟩) ?_
  · rw [bnd_l key]; rfl
  · have hm := h _ (List.getElem_mem hk)
    obtain ⟨m, hm2⟩ := Int.eq_ofNat_of_zero_le hm.1
    simp only [F_impl_maskOf_l1]
    rw [if_pos (by omega), idx_nat hk, hm2, one_eq (by omega), cal_some_eq, ck_of (inI (by omega) (by omega))]; rfl
  · intro a ha
    simp only [F_impl_maskOf_l1]
    have e : ∀ (s : List Int) (b : Nat), s.foldl (fun b v => b ||| BitVec.ofNat 32 (2 ^ v.toNat)) (BitVec.ofNat 32 b) = BitVec.ofNat 32 (s.foldl (fun (b : Nat) (v : Int) => b ||| 2 ^ v.toNat) b) := by
      intro s
      induction s with
      | nil => intro b; rfl
      | cons v s ih => intro b; rw [List.foldl_cons, List.foldl_cons, bv_or, ih]
    rw [if_neg (by omega), ha]
    have := e s 0
    rw [this]; rfl
theorem netsOf_eq {g : List (List Int)} (hg : GOk g) : F_impl_netsOf g = some (bvs (nb g)) := by
  unfold F_impl_netsOf
  have h16 := hg.n16
  have key := lp_map (step := fun s' => F_impl_netsOf_l1 g s'.1 s'.2) g (fun r => BitVec.ofNat 32 (mk r)) (o := .inl (bvs (nb g))) (fun k hk l hl => ?_) ?_
  · rw [bnd_l key]; rfl
  · have hr := hg.row_len hk
    simp only [F_impl_netsOf_l1]
    rw [if_pos (by omega), idx_nat hk, maskOf_eq (fun v hv => by have := hg.row_mem hk hv; omega) (by omega), cal_some_eq, app1_s (by omega), ck_of (inI (by omega) (by omega))]; rfl
  · simp only [F_impl_netsOf_l1]
    rw [if_neg (by omega)]
    have : List.map (fun r => BitVec.ofNat 32 (mk r)) g = bvs (nb g) := by simp [bvs, nb]
    rw [this]
theorem l25Mask_eq {s : List Int} (h : ∀ v ∈ s, 0 ≤ v ∧ v < 62) (hl : s.length ≤ 1048576) : F_spec_l25Mask s = some (mk s : Int) := by
  unfold F_spec_l25Mask
  have key := lp_fold (step := fun s' => F_spec_l25Mask_l1 s s'.1 s'.2) s (fun b v => i64or b (1 * 2 ^ v.toNat)) 0 (fun a => ∃ n : Nat, n < 2 ^ 62 ∧ a = n) (o := .inl (mk s : Int)) ⟨0, by decide, rfl⟩ (fun k hk a hp => ?_) ?_
  · rw [bnd_l key]; rfl
  · have hm := h _ (List.getElem_mem hk)
    obtain ⟨m, hm2⟩ := Int.eq_ofNat_of_zero_le hm.1
    obtain ⟨n, hn, rfl⟩ := hp
    have hp : 2 ^ m < 2 ^ 62 := Nat.pow_lt_pow_right (by decide) (by omega)
    simp only [F_spec_l25Mask_l1]
    rw [if_pos (by omega), idx_nat hk, hm2, grd_of (Int.natCast_nonneg _), Int.toNat_natCast, two_pow_nat, ck_of (inI_nat hp), ck_of (inI (by omega) (by omega))]
    exact ⟨rfl, n ||| 2 ^ m, or_lt hn hp, i64or_nat (by omega) (by omega)⟩
  · intro a ha
    simp only [F_spec_l25Mask_l1]
    have e : ∀ (s : List Int) (b : Nat), b < 2 ^ 62 → (∀ v ∈ s, 0 ≤ v ∧ v < 62) → s.foldl (fun b v => i64or b (1 * 2 ^ v.toNat)) (b : Int) = ((s.foldl (fun (b : Nat) (v : Int) => b ||| 2 ^ v.toNat) b : Nat) : Int) := by
      intro s
      induction s with
      | nil => intro b _ _; rfl
      | cons v s ih =>
        intro b hb hv
        have h1 := hv v (List.mem_cons_self ..)
        have hp : 2 ^ v.toNat < 2 ^ 62 := Nat.pow_lt_pow_right (by decide) (by omega)
        rw [List.foldl_cons, List.foldl_cons, two_pow_nat, i64or_nat (by omega) (by omega), ih _ (or_lt hb hp) (fun w hw => hv w (List.mem_cons_of_mem _ hw))]
    rw [if_neg (by omega), ha]
    have := e s 0 (by decide) h
    rw [show (0 : Int) = ((0 : Nat) : Int) from rfl, this]; rfl
theorem l25Bits_eq {g : List (List Int)} (hg : GOk g) : F_spec_l25Bits g = some (ints (nb g)) := by
  unfold F_spec_l25Bits
  have h16 := hg.n16
  have key := lp_map (step := fun s' => F_spec_l25Bits_l1 g s'.1 s'.2) g (fun r => ((mk r : Nat) : Int)) (o := .inl (ints (nb g))) (fun k hk l hl => ?_) ?_
  · rw [bnd_l key]; rfl
  · have hr := hg.row_len hk
    have h : ∀ v ∈ g[k], 0 ≤ v ∧ v < 62 := fun v hv => by have := hg.row_mem hk hv; omega
    have inner := lp_fold (step := fun s' => F_spec_l25Bits_l2 g (k : Int) s'.1 s'.2) g[k] (fun b v => i64or b (1 * 2 ^ v.toNat)) 0 (fun a => ∃ n : Nat, n < 2 ^ 62 ∧ a = n) (o := .inl (mk g[k] : Int)) ⟨0, by decide, rfl⟩ (fun j hj a hp => ?_) ?_
    · simp only [F_spec_l25Bits_l1]
      rw [if_pos (by omega), inner, bnd_inl_eq]
      unfold F_spec_l25Bits_k3
      rw [app1_s (by omega), ck_of (inI (by omega) (by omega))]; rfl
    · have hm := h _ (List.getElem_mem hj)
      obtain ⟨m, hm2⟩ := Int.eq_ofNat_of_zero_le hm.1
      obtain ⟨n, hn, rfl⟩ := hp
      have hp : 2 ^ m < 2 ^ 62 := Nat.pow_lt_pow_right (by decide) (by omega)
      simp only [F_spec_l25Bits_l2]
      rw [idx_nat hk, if_pos (by omega), idx_nat hk, idx_nat hj, hm2, grd_of (Int.natCast_nonneg _), Int.toNat_natCast, two_pow_nat, ck_of (inI_nat hp), ck_of (inI (by omega) (by omega))]
      exact ⟨rfl, n ||| 2 ^ m, or_lt hn hp, i64or_nat (by omega) (by omega)⟩
    · intro a ha
      simp only [F_spec_l25Bits_l2]
      have e : ∀ (s : List Int) (b : Nat), b < 2 ^ 62 → (∀ v ∈ s, 0 ≤ v ∧ v < 62) → s.foldl (fun b v => i64or b (1 * 2 ^ v.toNat)) (b : Int) = ((s.foldl (fun (b : Nat) (v : Int) => b ||| 2 ^ v.toNat) b : Nat) : Int) := by
        intro s
        induction s with
        | nil => intro b _ _; rfl
        | cons v s ih =>
          intro b hb hv
          have h1 := hv v (List.mem_cons_self ..)
          have hp : 2 ^ v.toNat < 2 ^ 62 := Nat.pow_lt_pow_right (by decide) (by omega)
          rw [List.foldl_cons, List.foldl_cons, two_pow_nat, i64or_nat (by omega) (by omega), ih _ (or_lt hb hp) (fun w hw => hv w (List.mem_cons_of_mem _ hw))]
      rw [idx_nat hk, if_neg (by omega), ha]
      have := e g[k] 0 (by decide) h
      rw [show (0 : Int) = ((0 : Nat) : Int) from rfl, this]; rfl
  · simp only [F_spec_l25Bits_l1]
    rw [if_neg (by omega)]
    have : List.map (fun r => ((mk r : Nat) : Int)) g = ints (nb g) := by simp [ints, nb]
    rw [this]
theorem has_eq {n v : Nat} (hn : n < 2 ^ 32) (hv : v < 32) : F_impl_vset_has (BitVec.ofNat 32 n) (v : Int) = some (n.testBit v) := by
  unfold F_impl_vset_has
  rw [grd_of (Int.natCast_nonneg _), Int.toNat_natCast]
  congr 1
  rw [Bool.eq_iff_iff, decide_eq_true_iff]
  have e : (BitVec.ofNat 32 n >>> v &&& 1#32).toNat = n / 2 ^ v % 2 := by
    rw [BitVec.toNat_and, BitVec.toNat_ushiftRight, bv_toNat hn, Nat.shiftRight_eq_div_pow]
    exact Nat.and_one_is_mod _
  have h1 : (BitVec.ofNat 32 n >>> v &&& 1#32 = 1#32) ↔ n / 2 ^ v % 2 = 1 := by
    rw [← e]
    exact ⟨fun h => by rw [h]; rfl, fun h => BitVec.eq_of_toNat_eq h⟩
  rw [h1, Nat.testBit_eq_decide_div_mod_eq, decide_eq_true_iff]
end Go.Proofs.Ytnebbhginakaiaa

/- What the reference and the program ask of sets of vertices: stable, clique, ruling. -/
namespace Go.Proofs.Ytnebbhginakaiaa
def each (n s : Nat) (p : Nat → Bool) : Bool := (List.range n).all fun v => !s.testBit v || p v
def near (a : List Nat) (s : Nat) : Nat := (els s).foldl (fun b v => b ||| a.getD v 0) s
theorem getD_get {a : List Nat} {v : Nat} (h : v < a.length) : a.getD v 0 = a[v] := by simp [h]
end Go.Proofs.Ytnebbhginakaiaa

/- Counting sets: loops over all sets, one to one. -/
namespace Go.Proofs.Ytnebbhginakaiaa
theorem delbit_bit (t v j : Nat) : (sdiff t (2 ^ v)).testBit j = (t.testBit j && !decide (v = j)) := by rw [sdiff_bit, Nat.testBit_two_pow]
end Go.Proofs.Ytnebbhginakaiaa

/- The edges of a graph: listed, counted; sums over all pairs. -/
namespace Go.Proofs.Ytnebbhginakaiaa
theorem rises_els {r : List Int} {n : Nat} (h : Rises r n) (hn : n ≤ 16) : r = ints (els (mk r)) := by
  have hlt : mk r < 2 ^ 16 := Nat.lt_of_lt_of_le h.lt (pow16 hn)
  have e : r.map Int.toNat = els (mk r) := by
    refine sorted_ext ?_ (els_sorted _) fun x => ?_
    · rw [List.pairwise_iff_getElem]
      intro i j hi hj hij
      simp only [List.length_map] at hi hj
      rw [List.getElem_map, List.getElem_map]
      have key : ∀ d i, (hi : i + d + 1 < r.length) → r[i] < r[i + d + 1] := by
        intro d
        induction d with
        | zero => intro i hi; have := (h (i + 1) (by omega)).2.2 (by omega); simpa using this
        | succ d ih => intro i hi; have h1 := ih i (by omega); have h2 := (h (i + (d + 1) + 1) hi).2.2 (by omega); simp only [Nat.add_sub_cancel] at h2; exact Int.lt_trans h1 h2
      obtain ⟨d, rfl⟩ : ∃ d, j = i + d + 1 := ⟨j - i - 1, by omega⟩
      have h1 := key d i hj
      have h2 := (h i hi).1
      omega
    · rw [List.mem_map, mem_els hlt, mk_bit, decide_eq_true_iff]
  unfold ints
  rw [← e, List.map_map]
  conv => lhs; rw [← List.map_id r]
  refine List.map_congr_left fun x hx => ?_
  have := h.mem hx
  simp; omega
theorem row_els {g : List (List Int)} (hg : GOk g) {v : Nat} (h : v < g.length) : g[v] = ints (els (mk g[v])) := rises_els (hg.rows v h).1 hg.n16
theorem nb_get {g : List (List Int)} {v : Nat} (h : v < g.length) : (nb g)[v]'(by rw [nb_len]; exact h) = mk g[v] := by simp [nb]
theorem nb_getD {g : List (List Int)} {v : Nat} (h : v < g.length) : (nb g).getD v 0 = mk g[v] := by rw [getD_get (by rw [nb_len]; exact h), nb_get h]
/-! ## sums -/
def edges (g : List (List Int)) : List (List Int) := (List.range g.length).flatMap fun u => ((g.getD u []).filter fun w => decide ((u : Int) < w)).map fun w => [(u : Int), w]
theorem filter_take_snoc {r : List Int} {p : Int → Bool} {k : Nat} (hk : k < r.length) : (r.take (k + 1)).filter p = (r.take k).filter p ++ (if p r[k] = true then [r[k]] else []) := by
  rw [take_succ_of hk, List.filter_append]; congr 1; by_cases h : p r[k] = true <;> simp [h]
end Go.Proofs.Ytnebbhginakaiaa

/- Sets that cover a graph's edges. -/
namespace Go.Proofs.Ytnebbhginakaiaa
theorem orFold_bit (l : List Nat) (v : Nat) : ∀ (b j : Nat), (l.foldl (fun (b m : Nat) => if m.testBit v = true then b ||| m else b) b).testBit j = true ↔ b.testBit j = true ∨ ∃ m ∈ l, m.testBit v = true ∧ m.testBit j = true := by
  induction l with
  | nil => intro b j; simp
  | cons m l ih =>
    intro b j
    rw [List.foldl_cons, ih]
    by_cases h : m.testBit v = true
    · rw [if_pos h, Nat.testBit_or, Bool.or_eq_true]
      constructor
      · rintro ((g | g) | ⟨x, hx, g⟩)
        · exact .inl g
        · exact .inr ⟨m, List.mem_cons_self .., h, g⟩
        · exact .inr ⟨x, List.mem_cons_of_mem _ hx, g⟩
      · rintro (g | ⟨x, hx, g1, g2⟩)
        · exact .inl (.inl g)
        · rcases List.mem_cons.1 hx with e | e
          · subst e; exact .inl (.inr g2)
          · exact .inr ⟨x, e, g1, g2⟩
    · rw [if_neg h]
      constructor
      · rintro (g | ⟨x, hx, g⟩)
        · exact .inl g
        · exact .inr ⟨x, List.mem_cons_of_mem _ hx, g⟩
      · rintro (g | ⟨x, hx, g1, g2⟩)
        · exact .inl g
        · rcases List.mem_cons.1 hx with e | e
          · subst e; exact absurd g1 h
          · exact .inr ⟨x, e, g1, g2⟩
theorem orFold_lt {l : List Nat} {v k : Nat} (h : ∀ m ∈ l, m < 2 ^ k) : ∀ b, b < 2 ^ k → l.foldl (fun (b m : Nat) => if m.testBit v = true then b ||| m else b) b < 2 ^ k := by
  induction l with
  | nil => intro b hb; exact hb
  | cons m l ih =>
    intro b hb
    rw [List.foldl_cons]
    refine ih (fun x hx => h x (List.mem_cons_of_mem _ hx)) _ ?_
    split
    · exact or_lt hb (h m (List.mem_cons_self ..))
    · exact hb
def Covers (a : List Nat) (ms : List Nat) : Prop := ∀ v, v < a.length → (∃ m ∈ ms, m.testBit v = true) ∧ ∀ j, (a.getD v 0).testBit j = true → ∃ m ∈ ms, m.testBit v = true ∧ m.testBit j = true
theorem bagMasks_eq {bags : List (List Int)} (hb : bags.length ≤ 1048576) (h : ∀ b ∈ bags, ∀ v ∈ b, 0 ≤ v ∧ v < 32) (hl : ∀ b ∈ bags, b.length ≤ 1048576) : F_impl_bagMasks bags = some (bvs (bags.map mk)) := by
  unfold F_impl_bagMasks
  have key : lp (fun s => F_impl_bagMasks_l1 bags s.1 s.2) (([] : List (BitVec 32)), 0) = some (.inl (bags.map fun b => BitVec.ofNat 32 (mk b))) := by
    refine lp_map bags (fun b => BitVec.ofNat 32 (mk b)) (fun k hk l hlk => ?_) ?_
    · simp only [F_impl_bagMasks_l1]
      have hm := List.getElem_mem hk
      rw [if_pos (by omega), idx_nat hk, cal_of (maskOf_eq (h _ hm) (hl _ hm)), app1_s (by omega), ck_of (inI (by omega) (by omega))]; rfl
    · simp only [F_impl_bagMasks_l1]
      rw [if_neg (by omega)]
  rw [bnd_l key]
  unfold F_impl_bagMasks_k2 bvs
  rw [List.map_map]; rfl
open Classical in
theorem coversEdges_eq {a ms : List Nat} (ha : a.length ≤ 16) (hb : ∀ v (h : v < a.length), a[v] < 2 ^ 16) (hml : ms.length ≤ 1048576) (hm : ∀ m ∈ ms, m < 2 ^ 16) : F_impl_coversEdges (bvs a) (bvs ms) = some (decide (Covers a ms)) := by
  unfold F_impl_coversEdges
  have inner : ∀ v : Nat, v < 32 → lp (fun s => F_impl_coversEdges_l2 (bvs ms) (v : Int) s.1 s.2) (0#32, 0) = some (.inl (BitVec.ofNat 32 (ms.foldl (fun (b m : Nat) => if m.testBit v = true then b ||| m else b) 0))) := by
    intro v hv
    refine lp_upto (fun k => (BitVec.ofNat 32 ((ms.take k).foldl (fun (b m : Nat) => if m.testBit v = true then b ||| m else b) 0), (k : Int))) ms.length rfl (fun k hk => ?_) ?_
    · simp only [F_impl_coversEdges_l2]
      have := hm _ (List.getElem_mem hk)
      rw [bvs_len, if_pos (by omega), idx_bvs hk, cal_of (has_eq (by omega) hv), take_succ_of hk, List.foldl_append, List.foldl_cons, List.foldl_nil]
      by_cases h : ms[k].testBit v = true
      · rw [if_pos h, if_pos h, ck_of (inI (by omega) (by omega)), bv_or]; rfl
      · rw [if_neg h, if_neg h, ck_of (inI (by omega) (by omega))]; rfl
    · simp only [F_impl_coversEdges_l2]
      rw [bvs_len, if_neg (by omega), List.take_length]
  have hat : ∀ v (h : v < a.length), ((∃ m ∈ ms, m.testBit v = true) ∧ ∀ j, (a.getD v 0).testBit j = true → ∃ m ∈ ms, m.testBit v = true ∧ m.testBit j = true) ↔
      ((ms.foldl (fun (b m : Nat) => if m.testBit v = true then b ||| m else b) 0).testBit v = true ∧ sdiff a[v] (ms.foldl (fun (b m : Nat) => if m.testBit v = true then b ||| m else b) 0) = 0) := by
    intro v h
    rw [orFold_bit, getD_get h]
    constructor
    · rintro ⟨⟨m, h1, h2⟩, h3⟩
      refine ⟨.inr ⟨m, h1, h2, h2⟩, bits_ext fun j => ?_⟩
      rw [sdiff_bit, Nat.zero_testBit]
      cases e : a[v].testBit j with
      | false => rfl
      | true =>
        rw [(orFold_bit ms v 0 j).2 (.inr (h3 j e))]; rfl
    · rintro ⟨h1, h2⟩
      refine ⟨?_, fun j hj => ?_⟩
      · rcases h1 with h1 | ⟨m, h3, h4, _⟩
        · rw [Nat.zero_testBit] at h1; cases h1
        · exact ⟨m, h3, h4⟩
      · have h3 : (sdiff a[v] (ms.foldl (fun (b m : Nat) => if m.testBit v = true then b ||| m else b) 0)).testBit j = false := by rw [h2, Nat.zero_testBit]
        rw [sdiff_bit, hj, Bool.true_and, Bool.not_eq_false'] at h3
        rcases (orFold_bit ms v 0 j).1 h3 with h4 | h4
        · rw [Nat.zero_testBit] at h4; cases h4
        · exact h4
  have key := lp_allC (step := fun s => F_impl_coversEdges_l1 (bvs a) (bvs ms) s) (fun k => (k : Int)) a.length (fun v => (∃ m ∈ ms, m.testBit v = true) ∧ ∀ j, (a.getD v 0).testBit j = true → ∃ m ∈ ms, m.testBit v = true ∧ m.testBit j = true) (Covers a ms) (oT := .inl ()) (oF := .inr false) Iff.rfl ?_ ?_ ?_
  · rw [show (0 : Int) = ((0 : Nat) : Int) from rfl, key, bnd_if]
    unfold F_impl_coversEdges_k4
    by_cases h : Covers a ms
    · rw [if_pos h, decide_eq_true h]
    · rw [if_neg h, decide_eq_false h]
  · intro v hv _ hp
    simp only [F_impl_coversEdges_l1]
    have hlt := orFold_lt (v := v) hm 0 (by decide)
    have hav := hb v hv
    obtain ⟨p1, p2⟩ := (hat v hv).1 hp
    rw [bvs_len, if_pos (by omega), idx_bvs hv, bnd_l (inner v (by omega))]
    unfold F_impl_coversEdges_k3
    rw [cal_of (has_eq (by omega) (by omega)), p1, if_neg (by simp), bv_andn (by omega), p2, if_neg (by simp), ck_of (inI (by omega) (by omega))]; rfl
  · intro v hv _ hp
    simp only [F_impl_coversEdges_l1]
    have hlt := orFold_lt (v := v) hm 0 (by decide)
    have hav := hb v hv
    rw [hat v hv] at hp
    rw [bvs_len, if_pos (by omega), idx_bvs hv, bnd_l (inner v (by omega))]
    unfold F_impl_coversEdges_k3
    rw [cal_of (has_eq (by omega) (by omega))]
    by_cases p1 : (ms.foldl (fun (b m : Nat) => if m.testBit v = true then b ||| m else b) 0).testBit v = true
    · have p2 : ¬ sdiff a[v] (ms.foldl (fun (b m : Nat) => if m.testBit v = true then b ||| m else b) 0) = 0 := fun h => hp ⟨p1, h⟩
      have := sdiff_le a[v] (ms.foldl (fun (b m : Nat) => if m.testBit v = true then b ||| m else b) 0)
      rw [if_neg (by simp [p1]), bv_andn (by omega), if_pos (by rw [Ne, bv_inj (by omega) (by decide)]; exact p2)]
    · rw [if_pos p1]
  · intro _
    simp only [F_impl_coversEdges_l1]
    rw [bvs_len, if_neg (by omega)]
end Go.Proofs.Ytnebbhginakaiaa

/- Library functions that take a test: IndexFunc, ContainsFunc. -/
namespace Go.Proofs.Ytnebbhginakaiaa
theorem idxF_int (l : List (Int)) (q : Int → Option Bool) (p : Int → Bool) (hl : l.length ≤ 1048576) (hq : ∀ x ∈ l, q x = some (p x)) : F_slices_IndexFunc_int l q = some (match l.findIdx? p with | some k => (k : Int) | none => -1) := by
  unfold F_slices_IndexFunc_int
  have key := lp_find (step := fun s => F_slices_IndexFunc_int_l1 l q s) l p (fun k => k) ?_ ?_ ?_
  · rw [key]; cases l.findIdx? p <;> rfl
  · intro k hk h
    simp only [F_slices_IndexFunc_int_l1]
    rw [if_pos (Int.ofNat_lt.2 hk), idx_nat hk, cal_of (hq _ (List.getElem_mem hk)), if_neg (by simp [h]), ck_of (inI (by omega) (by omega))]
  · intro k hk h
    simp only [F_slices_IndexFunc_int_l1]
    rw [if_pos (Int.ofNat_lt.2 hk), idx_nat hk, cal_of (hq _ (List.getElem_mem hk)), if_pos h]
  · simp only [F_slices_IndexFunc_int_l1]; rw [if_neg (by omega)]
theorem hasF_int (l : List (Int)) (q : Int → Option Bool) (p : Int → Bool) (hl : l.length ≤ 1048576) (hq : ∀ x ∈ l, q x = some (p x)) : F_slices_ContainsFunc_int l q = some (l.any p) := by
  unfold F_slices_ContainsFunc_int
  rw [idxF_int l q p hl hq, cal_some_eq, ← find_any]
  cases l.findIdx? p <;> rfl
theorem idxF_int64 (l : List (Int)) (q : Int → Option Bool) (p : Int → Bool) (hl : l.length ≤ 1048576) (hq : ∀ x ∈ l, q x = some (p x)) : F_slices_IndexFunc_int64 l q = some (match l.findIdx? p with | some k => (k : Int) | none => -1) := by
  unfold F_slices_IndexFunc_int64
  have key := lp_find (step := fun s => F_slices_IndexFunc_int64_l1 l q s) l p (fun k => k) ?_ ?_ ?_
  · rw [key]; cases l.findIdx? p <;> rfl
  · intro k hk h
    simp only [F_slices_IndexFunc_int64_l1]
    rw [if_pos (Int.ofNat_lt.2 hk), idx_nat hk, cal_of (hq _ (List.getElem_mem hk)), if_neg (by simp [h]), ck_of (inI (by omega) (by omega))]
  · intro k hk h
    simp only [F_slices_IndexFunc_int64_l1]
    rw [if_pos (Int.ofNat_lt.2 hk), idx_nat hk, cal_of (hq _ (List.getElem_mem hk)), if_pos h]
  · simp only [F_slices_IndexFunc_int64_l1]; rw [if_neg (by omega)]
theorem hasF_int64 (l : List (Int)) (q : Int → Option Bool) (p : Int → Bool) (hl : l.length ≤ 1048576) (hq : ∀ x ∈ l, q x = some (p x)) : F_slices_ContainsFunc_int64 l q = some (l.any p) := by
  unfold F_slices_ContainsFunc_int64
  rw [idxF_int64 l q p hl hq, cal_some_eq, ← find_any]
  cases l.findIdx? p <;> rfl
theorem idxF_Sint64 (l : List (List Int)) (q : List Int → Option Bool) (p : List Int → Bool) (hl : l.length ≤ 1048576) (hq : ∀ x ∈ l, q x = some (p x)) : F_slices_IndexFunc_Sint64 l q = some (match l.findIdx? p with | some k => (k : Int) | none => -1) := by
  unfold F_slices_IndexFunc_Sint64
  have key := lp_find (step := fun s => F_slices_IndexFunc_Sint64_l1 l q s) l p (fun k => k) ?_ ?_ ?_
  · rw [key]; cases l.findIdx? p <;> rfl
  · intro k hk h
    simp only [F_slices_IndexFunc_Sint64_l1]
    rw [if_pos (Int.ofNat_lt.2 hk), idx_nat hk, cal_of (hq _ (List.getElem_mem hk)), if_neg (by simp [h]), ck_of (inI (by omega) (by omega))]
  · intro k hk h
    simp only [F_slices_IndexFunc_Sint64_l1]
    rw [if_pos (Int.ofNat_lt.2 hk), idx_nat hk, cal_of (hq _ (List.getElem_mem hk)), if_pos h]
  · simp only [F_slices_IndexFunc_Sint64_l1]; rw [if_neg (by omega)]
theorem hasF_Sint64 (l : List (List Int)) (q : List Int → Option Bool) (p : List Int → Bool) (hl : l.length ≤ 1048576) (hq : ∀ x ∈ l, q x = some (p x)) : F_slices_ContainsFunc_Sint64 l q = some (l.any p) := by
  unfold F_slices_ContainsFunc_Sint64
  rw [idxF_Sint64 l q p hl hq, cal_some_eq, ← find_any]
  cases l.findIdx? p <;> rfl
end Go.Proofs.Ytnebbhginakaiaa

/- Tables over all sets: the value of a set out of those without its least member, and without a neighbour of it. -/
namespace Go.Proofs.Ytnebbhginakaiaa
section
variable (a : List Nat) (e0 : Int) (of : Int → List Int → Int)
end
end Go.Proofs.Ytnebbhginakaiaa

/- How many matchings there are: the reference's table. -/
namespace Go.Proofs.Ytnebbhginakaiaa
end Go.Proofs.Ytnebbhginakaiaa

/- What is reached from a vertex among some, and the parts of some vertices. -/
namespace Go.Proofs.Ytnebbhginakaiaa
section
variable {S O A : Type}
theorem lp_inl {step : S → Option (S ⊕ O)} {s s' : S} (h : step s = some (.inl s')) : lp step s = lp step s' := by rw [lp_unfold, h]
theorem lp_inr {step : S → Option (S ⊕ O)} {s : S} {o : O} (h : step s = some (.inr o)) : lp step s = some o := by rw [lp_unfold, h]
theorem lp_ex {step : S → Option (S ⊕ O)} (st : Nat → A → S) (n : Nat) (Inv : Nat → A → Prop) (Q : O → Prop) (h : ∀ k a, k < n → Inv k a → ∃ a', step (st k a) = some (.inl (st (k + 1) a')) ∧ Inv (k + 1) a')
    (he : ∀ a, Inv n a → ∃ o, step (st n a) = some (.inr o) ∧ Q o) : ∀ (m k : Nat) (a : A), k + m = n → Inv k a → ∃ o, lp step (st k a) = some o ∧ Q o
  | 0, k, a, hk, hi => by
    have e : k = n := by omega
    subst e
    obtain ⟨o, h1, h2⟩ := he a hi
    exact ⟨o, lp_inr h1, h2⟩
  | m + 1, k, a, hk, hi => by
    obtain ⟨a', h1, h2⟩ := h k a (by omega) hi
    obtain ⟨o, h3, h4⟩ := lp_ex st n Inv Q h he m (k + 1) a' (by omega) h2
    exact ⟨o, by rw [lp_inl h1, h3], h4⟩
end
end Go.Proofs.Ytnebbhginakaiaa

/- Nodes of nice tree decompositions; things counted. -/
namespace Go.Proofs.Ytnebbhginakaiaa
theorem sorted_extI : ∀ {l l' : List Int}, l.Pairwise (· < ·) → l'.Pairwise (· < ·) → (∀ x, x ∈ l ↔ x ∈ l') → l = l'
  | [], [], _, _, _ => rfl
  | [], y :: l', _, _, h => nomatch (h y).2 (List.mem_cons_self ..)
  | x :: l, [], _, _, h => nomatch (h x).1 (List.mem_cons_self ..)
  | x :: l, y :: l', h1, h2, h => by
    rw [List.pairwise_cons] at h1 h2
    have hxy : x = y := by
      rcases List.mem_cons.1 ((h x).1 (List.mem_cons_self ..)) with e | e
      · exact e
      · rcases List.mem_cons.1 ((h y).2 (List.mem_cons_self ..)) with e' | e'
        · exact e'.symm
        · have := h1.1 _ e'; have := h2.1 _ e; omega
    subst hxy
    congr 1
    refine sorted_extI h1.2 h2.2 fun z => ⟨fun hz => ?_, fun hz => ?_⟩
    · rcases List.mem_cons.1 ((h z).1 (List.mem_cons_of_mem _ hz)) with e | e
      · have := h1.1 _ hz; omega
      · exact e
    · rcases List.mem_cons.1 ((h z).2 (List.mem_cons_of_mem _ hz)) with e | e
      · have := h2.1 _ hz; omega
      · exact e
theorem Rises.sorted {s : List Int} {n : Nat} (h : Rises s n) (hn : n ≤ 16) : s.Pairwise (· < ·) := by
  rw [rises_els h hn]
  unfold ints
  exact List.pairwise_map.2 ((els_sorted _).imp fun h => by omega)
theorem Rises.mem_mk {s : List Int} {n : Nat} (h : Rises s n) (v : Nat) : (mk s).testBit v = true ↔ (v : Int) ∈ s := by
  rw [mk_mem (fun x hx => (h.mem hx).1), decide_eq_true_iff]
theorem rises_ext {a b : List Int} {n : Nat} (ha : Rises a n) (hb : Rises b n) (hn : n ≤ 16) : mk a = mk b ↔ a = b :=
  ⟨fun e => by rw [rises_els ha hn, rises_els hb hn, e], fun e => by rw [e]⟩
def More (a b : Nat) (v : Int) : Prop := (0 ≤ v ∧ v < 16) ∧ a.testBit v.toNat = false ∧ b = a ||| 2 ^ v.toNat
theorem l1Copy_eq4 {l : List Int} (h : l.length ≤ 1048576) : F_spec_l1Copy l = some l := by
  unfold F_spec_l1Copy
  rw [app_s (by simp; omega)]; rfl
theorem l1Into_srt {l : List Int} (x : Int) (hl : l.length ≤ 1000000) (hs : l.Pairwise (· < ·)) (hx : x ∉ l) : ∃ r, F_spec_l1Into l x = some r ∧ (∀ y, y ∈ r ↔ y ∈ l ∨ y = x) ∧ r.length ≤ l.length + 1 ∧ r.Pairwise (· < ·) := by
  obtain ⟨o, h1, i, rfl, hi, hlt, hge⟩ : ∃ o, lp (fun s => F_spec_l1Into_l1 l x s) 0 = some o ∧ ∃ i : Nat, o = .inl (i : Int) ∧ i ≤ l.length ∧ (∀ j (hj : j < l.length), j < i → l[j] < x) ∧ (∀ h : i < l.length, ¬ l[i] < x) := by
    refine lp_rule (step := fun s => F_spec_l1Into_l1 l x s) (fun s => ∃ k : Nat, s = (k : Int) ∧ k ≤ l.length ∧ ∀ j (hj : j < l.length), j < k → l[j] < x) (fun s => l.length - s.toNat) (fun o => ∃ i : Nat, o = .inl (i : Int) ∧ i ≤ l.length ∧ (∀ j (hj : j < l.length), j < i → l[j] < x) ∧ (∀ h : i < l.length, ¬ l[i] < x)) ?_ 0 ⟨0, rfl, Nat.zero_le _, fun j _ h => by omega⟩
    rintro s ⟨k, rfl, hk, hb⟩
    simp only [F_spec_l1Into_l1]
    by_cases h : k < l.length
    · rw [if_pos (by omega), idx_nat h]
      by_cases h2 : l[k] < x
      · rw [if_pos h2, ck_of (inI (by omega) (by omega))]
        refine .inl ⟨_, rfl, ⟨k + 1, by omega, by omega, fun j hj hjk => ?_⟩, by omega⟩
        by_cases e : j = k
        · subst e; exact h2
        · exact hb j hj (by omega)
      · rw [if_neg h2]; exact .inr ⟨_, rfl, k, rfl, hk, hb, fun _ => h2⟩
    · rw [if_neg (by omega)]; exact .inr ⟨_, rfl, k, rfl, hk, hb, fun h' => absurd h' h⟩
  unfold F_spec_l1Into
  rw [bnd_l h1]
  unfold F_spec_l1Into_k2
  have hput : ∀ {β : Type} (q : List Int → Option β), slc l 0 (i : Int) (fun _ => cal (F_spec_l1Copy ((l.drop (0 : Int).toNat).take ((i : Int).toNat - (0 : Int).toNat))) (fun x95 => app x95 ([x]) (fun _ => slc l (i : Int) (l.length : Int) (fun _ =>
      app (x95 ++ ([x])) ((l.drop (i : Int).toNat).take (((l.length : Int) : Int).toNat - (i : Int).toNat)) (fun _ => q ((x95 ++ ([x])) ++ ((l.drop (i : Int).toNat).take (((l.length : Int) : Int).toNat - (i : Int).toNat)))))))) = q ((l.take i ++ [x]) ++ l.drop i) := by
    intro β q
    have e : (l.drop i).take (l.length - i) = l.drop i := List.take_of_length_le (by simp)
    rw [slc_of ⟨by decide, by omega, by omega⟩, show (0 : Int).toNat = 0 from rfl, List.drop_zero, Int.toNat_natCast, Nat.sub_zero, cal_of (l1Copy_eq4 (by rw [List.length_take]; omega)), app1_s (by rw [List.length_take]; omega), slc_of ⟨by omega, by omega, by omega⟩, Int.toNat_natCast, e, app_s (by simp; omega)]
  have hmem : ∀ y, y ∈ (l.take i ++ [x]) ++ l.drop i ↔ y ∈ l ∨ y = x := by
    intro y
    have e : y ∈ l ↔ y ∈ l.take i ∨ y ∈ l.drop i := by rw [← List.mem_append, List.take_append_drop]
    rw [e]
    simp only [List.mem_append, List.mem_singleton]
    constructor
    · rintro ((h | h) | h)
      · exact .inl (.inl h)
      · exact .inr h
      · exact .inl (.inr h)
    · rintro ((h | h) | h)
      · exact .inl (.inl h)
      · exact .inr h
      · exact .inl (.inr h)
  have htake : ∀ y ∈ l.take i, y < x := fun y hy => by
    rw [List.mem_take_iff_getElem] at hy
    obtain ⟨j, hj, rfl⟩ := hy
    exact hlt j (by omega) (by omega)
  have hdrop : ∀ y ∈ l.drop i, x < y := fun y hy => by
    rw [List.mem_drop_iff_getElem] at hy
    obtain ⟨j, hj, rfl⟩ := hy
    have h3 := hge (by omega)
    have h4 : l[i]'(by omega) ≠ x := fun e => hx (by rw [← e]; exact List.getElem_mem _)
    rcases Nat.eq_zero_or_pos j with e | e
    · subst e; simp only [Nat.add_zero]; omega
    · have := List.pairwise_iff_getElem.1 hs i (i + j) (by omega) (by omega) (by omega); omega
  have hsort : ((l.take i ++ [x]) ++ l.drop i).Pairwise (· < ·) := by
    rw [List.pairwise_append, List.pairwise_append]
    refine ⟨⟨hs.sublist (List.take_sublist ..), by simp, fun a ha b hb => by rw [List.mem_singleton.1 hb]; exact htake a ha⟩, hs.sublist (List.drop_sublist ..), fun a ha b hb => ?_⟩
    have hb2 := hdrop b hb
    rcases List.mem_append.1 ha with h | h
    · have := htake a h; omega
    · rw [List.mem_singleton.1 h]; exact hb2
  have hres : ((l.take i ++ [x]) ++ l.drop i).length ≤ l.length + 1 := by simp; omega
  by_cases h : i < l.length
  · have h2 : l[i] ≠ x := fun e => hx (by rw [← e]; exact List.getElem_mem _)
    rw [if_pos (by omega), idx_nat h, if_neg h2, hput]; exact ⟨_, rfl, hmem, hres, hsort⟩
  · rw [if_neg (by omega), hput]; exact ⟨_, rfl, hmem, hres, hsort⟩
open Classical in
theorem l29More_eq {a b : List Int} {n : Nat} (hn : n ≤ 16) (ha : Rises a n) (hb : Rises b n) (v : Int) : F_spec_l29More a b v = some (decide (More (mk a) (mk b) v)) := by
  have hal := ha.len16 hn
  have hbl := hb.len16 hn
  unfold F_spec_l29More
  rw [cal_of (l1Has_eq _ _ (by omega))]
  by_cases hv : v ∈ a
  · rw [if_neg (by simpa using hv)]
    refine congrArg some (decide_eq_false ?_).symm
    rintro ⟨⟨h1, h2⟩, h3, _⟩
    obtain ⟨w, rfl⟩ := Int.eq_ofNat_of_zero_le h1
    rw [Int.toNat_natCast, (ha.mem_mk w).2 hv] at h3
    cases h3
  · rw [if_pos (by simpa using hv)]
    obtain ⟨r, h1, h2, h3, h4⟩ := l1Into_srt v (by omega) (ha.sorted hn) hv
    rw [cal_of h1, cal_of (l1Same_eq r b (by omega))]
    refine congrArg some ?_
    rw [Bool.eq_iff_iff, decide_eq_true_iff, decide_eq_true_iff]
    constructor
    · intro e
      subst e
      have hvr := hb.mem ((h2 v).2 (.inr rfl))
      obtain ⟨w, rfl⟩ := Int.eq_ofNat_of_zero_le hvr.1
      refine ⟨⟨by omega, by omega⟩, ?_, bits_ext fun j => ?_⟩
      · rw [Int.toNat_natCast]
        cases e : (mk a).testBit w with
        | false => rfl
        | true => exact absurd ((ha.mem_mk w).1 e) hv
      · rw [Int.toNat_natCast, Nat.testBit_or, Nat.testBit_two_pow, Bool.eq_iff_iff, Bool.or_eq_true, hb.mem_mk, ha.mem_mk, h2, decide_eq_true_iff]
        constructor
        · rintro (h | h)
          · exact .inl h
          · exact .inr (by omega)
        · rintro (h | h)
          · exact .inl h
          · exact .inr (by omega)
    · rintro ⟨⟨g1, g2⟩, g3, g4⟩
      obtain ⟨w, rfl⟩ := Int.eq_ofNat_of_zero_le g1
      rw [Int.toNat_natCast] at g3 g4
      refine sorted_extI h4 (hb.sorted hn) fun y => ?_
      rw [h2]
      constructor
      · rintro (h | h)
        · obtain ⟨u, rfl⟩ := Int.eq_ofNat_of_zero_le (ha.mem h).1
          rw [← hb.mem_mk, g4, Nat.testBit_or, (ha.mem_mk u).2 h]; rfl
        · subst h
          rw [← hb.mem_mk, g4, Nat.testBit_or, Nat.testBit_two_pow]; simp
      · intro h
        obtain ⟨u, rfl⟩ := Int.eq_ofNat_of_zero_le (hb.mem h).1
        rw [← hb.mem_mk, g4, Nat.testBit_or, Nat.testBit_two_pow, Bool.or_eq_true, ha.mem_mk, decide_eq_true_iff] at h
        rcases h with h | h
        · exact .inl h
        · exact .inr (by omega)
def KidsIn (c : List Int) (i : Nat) : Prop := ∀ k ∈ c, 0 ≤ k ∧ k < i
def BagAt (n : Nat) (b : List Int) : Prop := b.length ≤ 8 ∧ Rises b n
def NodeAt (K V : List Int) (B : List (List Int)) (C : List (List Int)) (i : Nat) : Prop :=
  KidsIn (C.getD i []) i ∧
  ((K.getD i 0 = 1 ∧ V.getD i 0 = -1 ∧ mk (B.getD i []) = 0 ∧ C.getD i [] = []) ∨
   (K.getD i 0 = 4 ∧ V.getD i 0 = -1 ∧ ∃ k1 k2 : Nat, C.getD i [] = [(k1 : Int), (k2 : Int)] ∧ mk (B.getD k1 []) = mk (B.getD i []) ∧ mk (B.getD k2 []) = mk (B.getD i [])) ∨
   (K.getD i 0 = 2 ∧ ∃ k : Nat, C.getD i [] = [(k : Int)] ∧ More (mk (B.getD k [])) (mk (B.getD i [])) (V.getD i 0)) ∨
   (K.getD i 0 = 3 ∧ ∃ k : Nat, C.getD i [] = [(k : Int)] ∧ More (mk (B.getD i [])) (mk (B.getD k [])) (V.getD i 0)))
theorem mk_nil_iff {b : List Int} {n : Nat} (h : Rises b n) : mk b = 0 ↔ b = [] := by
  constructor
  · intro e
    cases b with
    | nil => rfl
    | cons x l =>
      obtain ⟨w, rfl⟩ := Int.eq_ofNat_of_zero_le (h.mem (List.mem_cons_self ..)).1
      have := (h.mem_mk w).2 (List.mem_cons_self ..)
      rw [e, Nat.zero_testBit] at this; cases this
  · rintro rfl; rfl
theorem one_kid {c : List Int} {i : Nat} (h : KidsIn c i) (hl : c.length = 1) : ∃ k : Nat, c = [(k : Int)] ∧ k < i := by
  match c, hl with
  | [x], _ =>
    have := h x (by simp)
    obtain ⟨k, rfl⟩ := Int.eq_ofNat_of_zero_le this.1
    exact ⟨k, rfl, by omega⟩
theorem two_kids {c : List Int} {i : Nat} (h : KidsIn c i) (hl : c.length = 2) : ∃ k l : Nat, c = [(k : Int), (l : Int)] ∧ k < i ∧ l < i := by
  match c, hl with
  | [x, y], _ =>
    have h1 := h x (by simp)
    have h2 := h y (by simp)
    obtain ⟨k, rfl⟩ := Int.eq_ofNat_of_zero_le h1.1
    obtain ⟨l, rfl⟩ := Int.eq_ofNat_of_zero_le h2.1
    exact ⟨k, l, rfl, by omega, by omega⟩
open Classical in
theorem l29Node_eq {g : List (List Int)} {K V : List Int} {B C : List (List Int)} {m i : Nat} (h16 : g.length ≤ 16) (hm : m ≤ 200) (hi : i < m) (hK : K.length = m) (hV : V.length = m) (hB : B.length = m) (hC : C.length = m)
    (hcl : ∀ x ∈ C, x.length ≤ 1048576) (hbl : ∀ x ∈ B, x.length ≤ 1048576) (hb : ∀ j, j < i → BagAt g.length (B.getD j [])) : F_spec_l29Node g K V B C (i : Int) = some (decide (BagAt g.length (B.getD i []) ∧ NodeAt K V B C i)) := by
  have hiB : i < B.length := by omega
  have hiC : i < C.length := by omega
  have hiK : i < K.length := by omega
  have hiV : i < V.length := by omega
  have eB : B.getD i [] = B[i] := by simp [hiB]
  have eC : C.getD i [] = C[i] := by simp [hiC]
  have eK : K.getD i 0 = K[i] := by simp [hiK]
  have eV : V.getD i 0 = V[i] := by simp [hiV]
  have hci := hcl _ (List.getElem_mem hiC)
  have hbi := hbl _ (List.getElem_mem hiB)
  unfold F_spec_l29Node F_spec_l1Size
  rw [idx_nat hiB, idx_nat hiC]
  by_cases h8 : B[i].length ≤ 8
  case neg => rw [if_pos (by omega)]; exact congrArg some (decide_eq_false (fun h => h8 (by rw [← eB]; exact h.1.1))).symm
  rw [if_neg (by omega), cal_some_eq, cal_of (l1Set_eq _ _ (by omega) (by omega) (by omega))]
  by_cases hr : Rises B[i] g.length
  case neg => rw [if_pos (by simpa using hr)]; exact congrArg some (decide_eq_false (fun h => hr (by rw [← eB]; exact h.1.2))).symm
  rw [if_neg (by simpa using hr)]
  have hbag : BagAt g.length (B.getD i []) := by rw [eB]; exact ⟨h8, hr⟩
  have key := lp_allC (step := fun s => F_spec_l29Node_l1 (i : Int) C[i] s) (fun k => (k : Int)) C[i].length (fun k => ∀ h : k < C[i].length, 0 ≤ C[i][k] ∧ C[i][k] < i) (KidsIn C[i] i) (oT := .inl ()) (oF := .inr false) ?_ ?_ ?_ ?_
  · rw [show ((0 : Nat) : Int) = 0 from rfl] at key
    rw [key, bnd_if]
    by_cases hk : KidsIn C[i] i
    case neg => rw [if_neg hk]; exact congrArg some (decide_eq_false (fun h => hk (by rw [← eC]; exact h.2.1))).symm
    rw [if_pos hk]
    unfold F_spec_l29Node_k2
    rw [idx_nat hiK]
    have hN : (BagAt g.length (B.getD i []) ∧ NodeAt K V B C i) ↔
      ((K[i] = 1 ∧ V[i] = -1 ∧ mk B[i] = 0 ∧ C[i] = []) ∨ (K[i] = 4 ∧ V[i] = -1 ∧ ∃ k1 k2 : Nat, C[i] = [(k1 : Int), (k2 : Int)] ∧ mk (B.getD k1 []) = mk B[i] ∧ mk (B.getD k2 []) = mk B[i]) ∨
       (K[i] = 2 ∧ ∃ k : Nat, C[i] = [(k : Int)] ∧ More (mk (B.getD k [])) (mk B[i]) V[i]) ∨ (K[i] = 3 ∧ ∃ k : Nat, C[i] = [(k : Int)] ∧ More (mk B[i]) (mk (B.getD k [])) V[i])) := by
      unfold NodeAt
      rw [eB, eC, eK, eV]
      exact ⟨fun h => h.2.2, fun h => ⟨by rw [← eB]; exact hbag, hk, h⟩⟩
    have dec : ∀ {q : Prop} {b : Bool}, ((BagAt g.length (B.getD i []) ∧ NodeAt K V B C i) ↔ b = true) → some b = some (decide (BagAt g.length (B.getD i []) ∧ NodeAt K V B C i)) := fun h => congrArg some (by rw [Bool.eq_iff_iff, decide_eq_true_iff]; exact h.symm)
    have kid : ∀ k : Nat, k < i → ∃ hk : k < B.length, B.getD k [] = B[k] ∧ Rises B[k] g.length := fun k hk => by
      have hkB : k < B.length := by omega
      have e : B.getD k [] = B[k] := by simp [hkB]
      exact ⟨hkB, e, by rw [← e]; exact (hb k hk).2⟩
    by_cases k1 : K[i] = 1
    · rw [if_pos k1, idx_nat hiV]
      by_cases v1 : V[i] = -1
      · rw [if_pos v1]
        by_cases b0 : B[i] = []
        · rw [if_pos (by rw [b0]; rfl)]
          refine dec (q := True) (hN.trans ?_)
          rw [decide_eq_true_iff]
          constructor
          · rintro (h | h | h | h)
            · rw [h.2.2.2]; rfl
            · omega
            · omega
            · omega
          · intro h
            exact .inl ⟨k1, v1, by rw [b0]; rfl, List.length_eq_zero_iff.1 (by omega)⟩
        · have : B[i].length ≠ 0 := fun h => b0 (List.length_eq_zero_iff.1 h)
          rw [if_neg (by omega)]
          refine dec (q := True) (hN.trans ⟨?_, fun h => by cases h⟩)
          rintro (h | h | h | h)
          · exact absurd ((mk_nil_iff hr).1 h.2.2.1) b0
          · omega
          · omega
          · omega
      · rw [if_neg v1]
        refine dec (q := True) (hN.trans ⟨?_, fun h => by cases h⟩)
        rintro (h | h | h | h)
        · exact absurd h.2.1 v1
        · omega
        · omega
        · omega
    · rw [if_neg k1]
      by_cases k2 : K[i] = 2
      · rw [if_pos k2]
        by_cases c1 : C[i].length = 1
        · obtain ⟨k, hc, hki⟩ := one_kid hk c1
          obtain ⟨hkB, ek, hkr⟩ := kid k hki
          rw [if_pos (by omega)]
          have i0 : ∀ {β : Type} (q : Int → Option β), idx C[i] 0 q = q k := fun q => by rw [hc]; rfl
          rw [i0, idx_nat hkB, idx_nat hiV, cal_of (l29More_eq h16 hkr hr _)]
          refine dec (q := True) (hN.trans ?_)
          rw [decide_eq_true_iff]
          constructor
          · rintro (h | h | ⟨_, k', h1, h2⟩ | h)
            · omega
            · omega
            · rw [hc] at h1
              simp only [List.cons.injEq, and_true] at h1
              have e : k' = k := by omega
              rw [e, ek] at h2; exact h2
            · omega
          · intro h; exact .inr (.inr (.inl ⟨k2, k, hc, by rw [ek]; exact h⟩))
        · rw [if_neg (by omega)]
          refine dec (q := True) (hN.trans ⟨?_, fun h => by cases h⟩)
          rintro (h | h | ⟨_, k', h1, h2⟩ | h)
          · omega
          · omega
          · rw [h1] at c1; exact absurd rfl c1
          · omega
      · rw [if_neg k2]
        by_cases k3 : K[i] = 3
        · rw [if_pos k3]
          by_cases c1 : C[i].length = 1
          · obtain ⟨k, hc, hki⟩ := one_kid hk c1
            obtain ⟨hkB, ek, hkr⟩ := kid k hki
            rw [if_pos (by omega)]
            have i0 : ∀ {β : Type} (q : Int → Option β), idx C[i] 0 q = q k := fun q => by rw [hc]; rfl
            rw [i0, idx_nat hkB, idx_nat hiV, cal_of (l29More_eq h16 hr hkr _)]
            refine dec (q := True) (hN.trans ?_)
            rw [decide_eq_true_iff]
            constructor
            · rintro (h | h | h | ⟨_, k', h1, h2⟩)
              · omega
              · omega
              · omega
              · rw [hc] at h1
                simp only [List.cons.injEq, and_true] at h1
                have e : k' = k := by omega
                rw [e, ek] at h2; exact h2
            · intro h; exact .inr (.inr (.inr ⟨k3, k, hc, by rw [ek]; exact h⟩))
          · rw [if_neg (by omega)]
            refine dec (q := True) (hN.trans ⟨?_, fun h => by cases h⟩)
            rintro (h | h | h | ⟨_, k', h1, h2⟩)
            · omega
            · omega
            · omega
            · rw [h1] at c1; exact absurd rfl c1
        · rw [if_neg k3]
          by_cases k4 : K[i] = 4
          · rw [if_pos k4, idx_nat hiV]
            by_cases v1 : V[i] = -1
            · rw [if_pos v1]
              by_cases c2 : C[i].length = 2
              · obtain ⟨k, l, hc, hki, hli⟩ := two_kids hk c2
                obtain ⟨hkB, ek, hkr⟩ := kid k hki
                obtain ⟨hlB, el, hlr⟩ := kid l hli
                have i0 : ∀ {β : Type} (q : Int → Option β), idx C[i] 0 q = q k := fun q => by rw [hc]; rfl
                have i1 : ∀ {β : Type} (q : Int → Option β), idx C[i] 1 q = q l := fun q => by rw [hc]; rfl
                have hkl := hkr.len16 h16
                have hll := hlr.len16 h16
                rw [if_pos (by omega), i0, idx_nat hkB, cal_of (l1Same_eq _ _ (by omega))]
                have hN4 : (BagAt g.length (B.getD i []) ∧ NodeAt K V B C i) ↔ B[k] = B[i] ∧ B[l] = B[i] := by
                  rw [hN, ← rises_ext hkr hr h16, ← rises_ext hlr hr h16]
                  constructor
                  · rintro (h | ⟨_, _, k', l', h1, h2, h3⟩ | h | h)
                    · omega
                    · rw [hc] at h1
                      simp only [List.cons.injEq, and_true] at h1
                      have e1 : k' = k := by omega
                      have e2 : l' = l := by omega
                      rw [e1, ek] at h2; rw [e2, el] at h3
                      exact ⟨h2, h3⟩
                    · omega
                    · omega
                  · rintro ⟨h2, h3⟩; exact .inr (.inl ⟨k4, v1, k, l, hc, by rw [ek]; exact h2, by rw [el]; exact h3⟩)
                by_cases q1 : B[k] = B[i]
                · rw [if_pos (by simpa using q1), i1, idx_nat hlB, cal_of (l1Same_eq _ _ (by omega))]
                  refine dec (q := True) (hN4.trans ?_)
                  rw [decide_eq_true_iff]
                  exact ⟨fun h => h.2, fun h => ⟨q1, h⟩⟩
                · rw [if_neg (by simpa using q1)]
                  exact dec (q := True) (hN4.trans ⟨fun h => absurd h.1 q1, fun h => by cases h⟩)
              · rw [if_neg (by omega)]
                refine dec (q := True) (hN.trans ⟨?_, fun h => by cases h⟩)
                rintro (h | ⟨_, _, k', l', h1, _⟩ | h | h)
                · omega
                · rw [h1] at c2; exact absurd rfl c2
                · omega
                · omega
            · rw [if_neg v1]
              refine dec (q := True) (hN.trans ⟨?_, fun h => by cases h⟩)
              rintro (h | h | h | h)
              · omega
              · exact absurd h.2.1 v1
              · omega
              · omega
          · rw [if_neg k4]
            refine dec (q := True) (hN.trans ⟨?_, fun h => by cases h⟩)
            rintro (h | h | h | h) <;> omega
  · constructor
    · exact fun h k hk hk' => h _ (List.getElem_mem hk')
    · intro h x hx
      obtain ⟨k, hk, rfl⟩ := List.getElem_of_mem hx
      exact h k hk hk
  · intro k hk _ hp
    have := hp hk
    simp only [F_spec_l29Node_l1]
    rw [if_pos (by omega), idx_nat hk, ck_of (inI (by omega) (by omega)), l1In_eq, cal_some_eq, if_neg (by simp; omega), ck_of (inI (by omega) (by omega))]; rfl
  · intro k hk _ hp
    simp only [F_spec_l29Node_l1]
    have hp2 : ¬ (0 ≤ C[i][k] ∧ C[i][k] ≤ (i : Int) - 1) := fun h => hp fun _ => ⟨h.1, by omega⟩
    rw [if_pos (by omega), idx_nat hk, ck_of (inI (by omega) (by omega)), l1In_eq, cal_some_eq, if_pos (by simpa using hp2)]
  · intro _
    simp only [F_spec_l29Node_l1]
    rw [if_neg (by omega)]
theorem less_iff {a b : Nat} {n : Nat} (hn : n ≤ 16) (ha : a < 2 ^ n) (hb : b < 2 ^ n) {v : Int} : More a b v ↔ (0 ≤ v ∧ v < n) ∧ b.testBit v.toNat = true ∧ a = sdiff b (2 ^ v.toNat) := by
  constructor
  · rintro ⟨⟨h1, h2⟩, h3, h4⟩
    have hbv : b.testBit v.toNat = true := by rw [h4, Nat.testBit_or, Nat.testBit_two_pow]; simp
    have := bit_lt hb hbv
    refine ⟨⟨h1, by omega⟩, hbv, bits_ext fun j => ?_⟩
    rw [delbit_bit, h4, Nat.testBit_or, Nat.testBit_two_pow]
    by_cases e : v.toNat = j
    · subst e; rw [h3]; simp
    · simp [e]
  · rintro ⟨⟨h1, h2⟩, h3, h4⟩
    refine ⟨⟨h1, by omega⟩, by rw [h4, delbit_bit]; simp, bits_ext fun j => ?_⟩
    rw [h4, Nat.testBit_or, delbit_bit, Nat.testBit_two_pow]
    by_cases e : v.toNat = j
    · subst e; simp [h3]
    · simp [e]
theorem more_iff {a b : Nat} {n : Nat} (hn : n ≤ 16) (ha : a < 2 ^ n) (hb : b < 2 ^ n) {v : Int} : More a b v ↔ (0 ≤ v ∧ v < n) ∧ a.testBit v.toNat = false ∧ b = a ||| 2 ^ v.toNat := by
  constructor
  · rintro ⟨⟨h1, h2⟩, h3, h4⟩
    have hbv : b.testBit v.toNat = true := by rw [h4, Nat.testBit_or, Nat.testBit_two_pow]; simp
    have := bit_lt hb hbv
    exact ⟨⟨h1, by omega⟩, h3, h4⟩
  · rintro ⟨⟨h1, h2⟩, h3, h4⟩
    exact ⟨⟨h1, by omega⟩, h3, h4⟩
open Classical in
theorem goodNode_eq {n : Nat} {K V : List Int} {B C : List (List Int)} {m i : Nat} (h16 : n ≤ 16) (h1n : 1 ≤ n) (hm : m ≤ 200) (hi : i < m) (hK : K.length = m) (hV : V.length = m) (hB : B.length = m) (hC : C.length = m)
    (hcl : ∀ x ∈ C, x.length ≤ 1048576) (hb : ∀ b ∈ B, Rises b n) : F_impl_goodNode K V B C (i : Int) (bvs (B.map mk)) (n : Int) = some (decide (NodeAt K V B C i)) := by
  have hiB : i < B.length := by omega
  have hiC : i < C.length := by omega
  have hiK : i < K.length := by omega
  have hiV : i < V.length := by omega
  have eB : B.getD i [] = B[i] := by simp [hiB]
  have eC : C.getD i [] = C[i] := by simp [hiC]
  have eK : K.getD i 0 = K[i] := by simp [hiK]
  have eV : V.getD i 0 = V[i] := by simp [hiV]
  have hci := hcl _ (List.getElem_mem hiC)
  have hp := pow16 h16
  have hML : ∀ k, k < m → k < (B.map mk).length := fun k hk => by rw [List.length_map]; omega
  have hM : ∀ k (hk : k < m), (B.map mk)[k]'(hML k hk) = mk (B.getD k []) := fun k hk => by
    rw [List.getElem_map, show B.getD k [] = B[k]'(by omega) by simp [show k < B.length by omega]]
  have hMn : ∀ k, k < m → mk (B.getD k []) < 2 ^ n := fun k hk => by
    rw [show B.getD k [] = B[k]'(by omega) by simp [show k < B.length by omega]]
    exact (hb _ (List.getElem_mem _)).lt
  have hgi : ∀ {β : Type} (k : Nat) (hk : k < m) (q : BitVec 32 → Option β), idx (bvs (B.map mk)) (k : Int) q = q (BitVec.ofNat 32 (mk (B.getD k []))) := fun k hk q => by rw [idx_bvs (hML k hk), hM k hk]
  have dec : ∀ {b : Bool}, (NodeAt K V B C i ↔ b = true) → some b = some (decide (NodeAt K V B C i)) := fun h => congrArg some (by rw [Bool.eq_iff_iff, decide_eq_true_iff]; exact h.symm)
  unfold F_impl_goodNode
  rw [idx_nat hiV, idx_nat hiC, hasF_int64 C[i] _ (fun k => !decide (0 ≤ k ∧ k ≤ (i : Int) - 1)) hci (fun k hk => by
    unfold F_impl_goodNode_1; rw [ck_of (inI (by omega) (by omega)), inRange_eq, cal_some_eq]), cal_some_eq]
  by_cases hk : KidsIn C[i] i
  case neg =>
    rw [if_pos ?_]
    · exact dec ⟨fun h => absurd (by rw [← eC]; exact h.1) hk, fun h => by cases h⟩
    · rw [List.any_eq_true]
      refine Classical.byContradiction fun h => hk fun k hk => ?_
      refine Classical.byContradiction fun h2 => h ⟨k, hk, ?_⟩
      rw [Bool.not_eq_true', decide_eq_false_iff_not]; omega
  rw [if_neg (by rw [List.any_eq_true]; rintro ⟨k, h1, h2⟩; have := hk k h1; rw [Bool.not_eq_true', decide_eq_false_iff_not] at h2; omega), idx_nat hiK]
  have hN : NodeAt K V B C i ↔
      ((K[i] = 1 ∧ V[i] = -1 ∧ mk (B.getD i []) = 0 ∧ C[i] = []) ∨ (K[i] = 4 ∧ V[i] = -1 ∧ ∃ k1 k2 : Nat, C[i] = [(k1 : Int), (k2 : Int)] ∧ mk (B.getD k1 []) = mk (B.getD i []) ∧ mk (B.getD k2 []) = mk (B.getD i [])) ∨
       (K[i] = 2 ∧ ∃ k : Nat, C[i] = [(k : Int)] ∧ More (mk (B.getD k [])) (mk (B.getD i [])) V[i]) ∨ (K[i] = 3 ∧ ∃ k : Nat, C[i] = [(k : Int)] ∧ More (mk (B.getD i [])) (mk (B.getD k [])) V[i])) := by
    unfold NodeAt
    rw [eC, eK, eV]
    exact ⟨fun h => h.2, fun h => ⟨hk, h⟩⟩
  have hMi := hMn i hi
  by_cases k1 : K[i] = 1
  · rw [if_pos k1]
    by_cases v1 : V[i] = -1
    · rw [if_pos v1, hgi i hi]
      by_cases b0 : mk (B.getD i []) = 0
      · rw [if_pos (by rw [b0])]
        refine dec (hN.trans ?_)
        rw [decide_eq_true_iff]
        constructor
        · rintro (h | h | h | h)
          · rw [h.2.2.2]; rfl
          · omega
          · omega
          · omega
        · intro h
          exact .inl ⟨k1, v1, b0, List.length_eq_zero_iff.1 (by omega)⟩
      · rw [if_neg (by rw [bv_inj (by omega) (by decide)]; exact b0)]
        refine dec (hN.trans ⟨?_, fun h => by cases h⟩)
        rintro (h | h | h | h)
        · exact absurd h.2.2.1 b0
        · omega
        · omega
        · omega
    · rw [if_neg v1]
      refine dec (hN.trans ⟨?_, fun h => by cases h⟩)
      rintro (h | h | h | h)
      · exact absurd h.2.1 v1
      · omega
      · omega
      · omega
  · rw [if_neg k1]
    by_cases k4 : K[i] = 4
    · rw [if_pos k4]
      by_cases v1 : V[i] = -1
      · rw [if_pos v1]
        by_cases c2 : C[i].length = 2
        · obtain ⟨k, l, hc, hki, hli⟩ := two_kids hk c2
          have i0 : ∀ {β : Type} (q : Int → Option β), idx C[i] 0 q = q k := fun q => by rw [hc]; rfl
          have i1 : ∀ {β : Type} (q : Int → Option β), idx C[i] 1 q = q l := fun q => by rw [hc]; rfl
          have hMk := hMn k (by omega)
          have hMl := hMn l (by omega)
          have hN4 : NodeAt K V B C i ↔ mk (B.getD k []) = mk (B.getD i []) ∧ mk (B.getD l []) = mk (B.getD i []) := by
            rw [hN]
            constructor
            · rintro (h | ⟨_, _, k', l', h1, h2, h3⟩ | h | h)
              · omega
              · rw [hc] at h1
                simp only [List.cons.injEq, and_true] at h1
                have e1 : k' = k := by omega
                have e2 : l' = l := by omega
                rw [e1] at h2; rw [e2] at h3
                exact ⟨h2, h3⟩
              · omega
              · omega
            · rintro ⟨h2, h3⟩; exact .inr (.inl ⟨k4, v1, k, l, hc, h2, h3⟩)
          rw [if_pos (by omega), i0, hgi k (by omega), hgi i hi]
          by_cases q1 : mk (B.getD k []) = mk (B.getD i [])
          · rw [if_pos (by rw [q1]), i1, hgi l (by omega), hgi i hi]
            refine dec (hN4.trans ?_)
            rw [decide_eq_true_iff, bv_inj (by omega) (by omega)]
            exact ⟨fun h => h.2, fun h => ⟨q1, h⟩⟩
          · rw [if_neg (by rw [bv_inj (by omega) (by omega)]; exact q1)]
            exact dec (hN4.trans ⟨fun h => absurd h.1 q1, fun h => by cases h⟩)
        · rw [if_neg (by omega)]
          refine dec (hN.trans ⟨?_, fun h => by cases h⟩)
          rintro (h | ⟨_, _, k', l', h1, _⟩ | h | h)
          · omega
          · rw [h1] at c2; exact absurd rfl c2
          · omega
          · omega
      · rw [if_neg v1]
        refine dec (hN.trans ⟨?_, fun h => by cases h⟩)
        rintro (h | h | h | h)
        · omega
        · exact absurd h.2.1 v1
        · omega
        · omega
    · rw [if_neg k4]
      by_cases k2 : K[i] = 2
      · rw [if_pos k2, ck_of (inI (by omega) (by omega)), inRange_eq, cal_some_eq]
        have out : (¬ (0 ≤ V[i] ∧ V[i] ≤ (n : Int) - 1) ∨ C[i].length ≠ 1) → ¬ NodeAt K V B C i := by
          intro ho h
          rcases hN.1 h with h | h | ⟨_, k, h1, h2⟩ | h
          · omega
          · omega
          · have hki : k < i := by have := hk k (by rw [h1]; simp); omega
            have := ((more_iff h16 (hMn k (by omega)) hMi).1 h2).1
            rcases ho with ho | ho
            · omega
            · rw [h1] at ho; exact ho rfl
          · omega
        by_cases hv : 0 ≤ V[i] ∧ V[i] ≤ (n : Int) - 1
        · rw [if_pos (by simpa using hv)]
          by_cases c1 : C[i].length = 1
          · obtain ⟨k, hc, hki⟩ := one_kid hk c1
            have i0 : ∀ {β : Type} (q : Int → Option β), idx C[i] 0 q = q k := fun q => by rw [hc]; rfl
            have hMk := hMn k (by omega)
            obtain ⟨w, hw⟩ := Int.eq_ofNat_of_zero_le hv.1
            have hN2 : NodeAt K V B C i ↔ (mk (B.getD k [])).testBit w = false ∧ mk (B.getD i []) = mk (B.getD k []) ||| 2 ^ w := by
              rw [hN]
              have hmi := more_iff h16 hMk hMi (v := V[i])
              rw [hw, Int.toNat_natCast] at hmi
              constructor
              · rintro (h | h | ⟨_, k', h1, h2⟩ | h)
                · omega
                · omega
                · rw [hc] at h1
                  simp only [List.cons.injEq, and_true] at h1
                  have e : k' = k := by omega
                  rw [e, hw] at h2; exact (hmi.1 h2).2
                · omega
              · intro h; exact .inr (.inr (.inl ⟨k2, k, hc, by rw [hw]; exact hmi.2 ⟨by omega, h⟩⟩))
            rw [if_pos (by omega), i0, hgi k (by omega), hw, cal_of (has_eq (by omega) (by omega))]
            by_cases hb2 : (mk (B.getD k [])).testBit w = true
            · rw [if_neg (by simpa using hb2)]
              exact dec (hN2.trans ⟨fun h => absurd (hb2.symm.trans h.1) (by decide), fun h => by cases h⟩)
            · rw [if_pos hb2, hgi i hi, i0, hgi k (by omega), cal_of (one_eq (by omega)), bv_or]
              have hor : mk (B.getD k []) ||| 2 ^ w < 2 ^ 32 := or_lt (by omega) (Nat.pow_lt_pow_right (by decide) (by omega))
              refine dec (hN2.trans ?_)
              rw [decide_eq_true_iff, bv_inj (by omega) hor]
              exact ⟨fun h => h.2, fun h => ⟨by simpa using hb2, h⟩⟩
          · rw [if_neg (by omega)]
            exact dec ⟨fun h => absurd h (out (.inr c1)), fun h => by cases h⟩
        · rw [if_neg (by simpa using hv)]
          exact dec ⟨fun h => absurd h (out (.inl hv)), fun h => by cases h⟩
      · rw [if_neg k2]
        by_cases k3 : K[i] = 3
        · rw [if_pos k3, ck_of (inI (by omega) (by omega)), inRange_eq, cal_some_eq]
          have out : (¬ (0 ≤ V[i] ∧ V[i] ≤ (n : Int) - 1) ∨ C[i].length ≠ 1) → ¬ NodeAt K V B C i := by
            intro ho h
            rcases hN.1 h with h | h | h | ⟨_, k, h1, h2⟩
            · omega
            · omega
            · omega
            · have hki : k < i := by have := hk k (by rw [h1]; simp); omega
              have := ((less_iff h16 hMi (hMn k (by omega))).1 h2).1
              rcases ho with ho | ho
              · omega
              · rw [h1] at ho; exact ho rfl
          by_cases hv : 0 ≤ V[i] ∧ V[i] ≤ (n : Int) - 1
          · rw [if_pos (by simpa using hv)]
            by_cases c1 : C[i].length = 1
            · obtain ⟨k, hc, hki⟩ := one_kid hk c1
              have i0 : ∀ {β : Type} (q : Int → Option β), idx C[i] 0 q = q k := fun q => by rw [hc]; rfl
              have hMk := hMn k (by omega)
              obtain ⟨w, hw⟩ := Int.eq_ofNat_of_zero_le hv.1
              have hN2 : NodeAt K V B C i ↔ (mk (B.getD k [])).testBit w = true ∧ mk (B.getD i []) = sdiff (mk (B.getD k [])) (2 ^ w) := by
                rw [hN]
                have hmi := less_iff h16 hMi hMk (v := V[i])
                rw [hw, Int.toNat_natCast] at hmi
                constructor
                · rintro (h | h | h | ⟨_, k', h1, h2⟩)
                  · omega
                  · omega
                  · omega
                  · rw [hc] at h1
                    simp only [List.cons.injEq, and_true] at h1
                    have e : k' = k := by omega
                    rw [e, hw] at h2; exact (hmi.1 h2).2
                · intro h; exact .inr (.inr (.inr ⟨k3, k, hc, by rw [hw]; exact hmi.2 ⟨by omega, h⟩⟩))
              rw [if_pos (by omega), i0, hgi k (by omega), hw, cal_of (has_eq (by omega) (by omega))]
              by_cases hb2 : (mk (B.getD k [])).testBit w = true
              · have hsd := sdiff_le (mk (B.getD k [])) (2 ^ w)
                rw [if_pos hb2, hgi i hi, i0, hgi k (by omega), cal_of (one_eq (by omega)), bv_andn (by omega)]
                refine dec (hN2.trans ?_)
                rw [decide_eq_true_iff, bv_inj (by omega) (by omega)]
                exact ⟨fun h => h.2, fun h => ⟨hb2, h⟩⟩
              · rw [if_neg hb2]
                exact dec (hN2.trans ⟨fun h => absurd h.1 hb2, fun h => by cases h⟩)
            · rw [if_neg (by omega)]
              exact dec ⟨fun h => absurd h (out (.inr c1)), fun h => by cases h⟩
          · rw [if_neg (by simpa using hv)]
            exact dec ⟨fun h => absurd h (out (.inl hv)), fun h => by cases h⟩
        · rw [if_neg k3]
          refine dec (hN.trans ⟨?_, fun h => by cases h⟩)
          rintro (h | h | h | h) <;> omega
def inc1 (o : List Int) (x : Int) : List Int := o.set x.toNat (o.getD x.toNat 0 + 1)
def incAll (l : List Int) (o : List Int) : List Int := l.foldl inc1 o
theorem inc1_len (o : List Int) (x : Int) : (inc1 o x).length = o.length := by simp [inc1]
theorem incAll_len (l : List Int) : ∀ o : List Int, (incAll l o).length = o.length := by
  induction l with
  | nil => intro o; rfl
  | cons x l ih => intro o; show (incAll l (inc1 o x)).length = _; rw [ih, inc1_len]
theorem incAll_get (l : List Int) : ∀ (o : List Int), (∀ x ∈ l, 0 ≤ x ∧ x < o.length) → ∀ v, v < o.length → (incAll l o).getD v 0 = o.getD v 0 + l.count (v : Int) := by
  induction l with
  | nil => intro o _ v _; simp [incAll]
  | cons x l ih =>
    intro o h v hv
    have hx := h x (List.mem_cons_self ..)
    obtain ⟨w, rfl⟩ := Int.eq_ofNat_of_zero_le hx.1
    show (incAll l (inc1 o (w : Int))).getD v 0 = _
    rw [ih _ (fun y hy => by rw [inc1_len]; exact h y (List.mem_cons_of_mem _ hy)) v (by rw [inc1_len]; exact hv), List.count_cons]
    unfold inc1
    rw [Int.toNat_natCast, List.getD_eq_getElem?_getD, List.getElem?_set, List.getD_eq_getElem?_getD]
    by_cases e : w = v
    · subst e
      rw [if_pos rfl, if_pos hv, if_pos (by simp)]
      simp only [Option.getD_some, List.getD_eq_getElem?_getD]; omega
    · rw [if_neg e, if_neg (by rw [beq_iff_eq]; omega)]
      simp [List.getD_eq_getElem?_getD]
theorem incAll_snoc (l : List Int) (x : Int) (o : List Int) : incAll (l ++ [x]) o = inc1 (incAll l o) x := by unfold incAll; rw [List.foldl_append]; rfl
theorem inc_val {l : List Int} {m : Nat} (h : ∀ x ∈ l, 0 ≤ x ∧ x < m) {v : Nat} (hv : v < m) : (incAll l (List.replicate m 0)).getD v 0 = l.count (v : Int) := by
  rw [incAll_get l _ (fun x hx => by rw [List.length_replicate]; exact h x hx) v (by rw [List.length_replicate]; exact hv)]
  simp [hv]
theorem inc_idx {β : Type} {l : List Int} {m : Nat} (h : ∀ x ∈ l, 0 ≤ x ∧ x < m) {x : Int} (hx : 0 ≤ x ∧ x < m) (q : Int → Option β) : idx (incAll l (List.replicate m 0)) x q = q (l.count x : Int) := by
  obtain ⟨w, rfl⟩ := Int.eq_ofNat_of_zero_le hx.1
  have hw : w < (incAll l (List.replicate m 0)).length := by rw [incAll_len, List.length_replicate]; omega
  have := inc_val h (v := w) (by omega)
  rw [idx_nat hw, ← this]; congr 1; simp [hw]
theorem inc_set {l : List Int} {m : Nat} (h : ∀ x ∈ l, 0 ≤ x ∧ x < m) {x : Int} (hx : 0 ≤ x ∧ x < m) : (incAll l (List.replicate m 0)).set x.toNat ((l.count x : Int) + 1) = incAll (l ++ [x]) (List.replicate m 0) := by
  obtain ⟨w, rfl⟩ := Int.eq_ofNat_of_zero_le hx.1
  have := inc_val h (v := w) (by omega)
  rw [incAll_snoc]; unfold inc1
  rw [Int.toNat_natCast, this]
theorem NodeAt.kids {K V : List Int} {B C : List (List Int)} {i : Nat} (h : NodeAt K V B C i) : (C.getD i []).length ≤ 2 := by
  rcases h.2 with h | ⟨_, _, _, _, h, _⟩ | ⟨_, _, h, _⟩ | ⟨_, _, h, _⟩
  · rw [h.2.2.2]; simp
  · rw [h]; simp
  · rw [h]; simp
  · rw [h]; simp
def dropsTo (K V : List Int) (i : Nat) : List Int := ((List.range i).filter fun j => decide (K.getD j 0 = 3)).map fun j => V.getD j 0
theorem dropsTo_succ (K V : List Int) (i : Nat) : dropsTo K V (i + 1) = if K.getD i 0 = 3 then dropsTo K V i ++ [V.getD i 0] else dropsTo K V i := by
  unfold dropsTo
  rw [List.range_succ, List.filter_append, List.map_append]
  split
  · rename_i h; rw [show List.filter (fun j => decide (K.getD j 0 = 3)) [i] = [i] by rw [List.filter_cons, if_pos (by simpa using h)]; rfl]; rfl
  · rename_i h; rw [show List.filter (fun j => decide (K.getD j 0 = 3)) [i] = [] by rw [List.filter_cons, if_neg (by simpa using h)]; rfl, List.map_nil, List.append_nil]
theorem dropsTo_len (K V : List Int) (i : Nat) : (dropsTo K V i).length ≤ i := by unfold dropsTo; rw [List.length_map]; exact Nat.le_trans (List.length_filter_le ..) (by simp)
end Go.Proofs.Ytnebbhginakaiaa

/- The laws' helpers over graphs. -/
namespace Go.Proofs.Ytnebbhginakaiaa
theorem szGraph_eq (g : List (List Int)) (n : Int) (h0 : 0 ≤ n) (h1 : n ≤ 1048576) (ha : Sz.ok g) :
    ∃ m, F_laws_szGraph g n = some m ∧ (m < 0 ∨ (0 ≤ m ∧ m ≤ n ∧ g.length ≤ 1048576 ∧ ∀ x ∈ g, x.length ≤ 1048576)) := by
  unfold F_laws_szGraph
  obtain ⟨m, hm, h⟩ := szInt64SS_eq g n h0 h1 ha
  rw [cal_of hm]
  by_cases h2 : m < 0
  · exact ⟨-1, by rw [if_pos h2], .inl (by decide)⟩
  · exact ⟨m, by rw [if_neg h2], h⟩
theorem toGraph_eq (g : List (List Int)) (h1 : g.length ≤ 1048576) (h2 : ∀ x ∈ g, x.length ≤ 1048576) : F_laws_toGraph g = some g := by
  unfold F_laws_toGraph
  rw [cal_of (toInt64SS_eq _ (by omega) (fun x hx => by have := h2 x hx; omega))]
theorem eqGraph_eq (g : List (List Int)) (h1 : g.length ≤ 1048576) (h2 : ∀ x ∈ g, x.length ≤ 1048576) : F_laws_eqGraph g g = some true := by
  unfold F_laws_eqGraph
  rw [cal_of (eqInt64SS_eq _ _ (by omega) (fun x hx => by have := h2 x hx; omega)), if_neg (by simp)]
end Go.Proofs.Ytnebbhginakaiaa

/- FnExactNiceOk: the plain law. -/
namespace Go.Proofs.Ytnebbhginakaiaa
def kidsTo (C : List (List Int)) (i : Nat) : List Int := (C.take i).flatten
theorem kidsTo_succ {C : List (List Int)} {i : Nat} (h : i < C.length) : kidsTo C (i + 1) = kidsTo C i ++ C[i] := by
  unfold kidsTo; rw [take_succ_of h, List.flatten_append]; simp
theorem mem_kidsTo {C : List (List Int)} {i : Nat} {x : Int} (h : x ∈ kidsTo C i) : ∃ j, j < i ∧ x ∈ C.getD j [] := by
  unfold kidsTo at h
  rw [List.mem_flatten] at h
  obtain ⟨c, hc, hx⟩ := h
  rw [List.mem_take_iff_getElem] at hc
  obtain ⟨j, hj, rfl⟩ := hc
  exact ⟨j, by omega, by rw [List.getD_eq_getElem?_getD, List.getElem?_eq_getElem (by omega)]; exact hx⟩
theorem inc_loop {O : Type} {step : List Int × Int → Option ((List Int × Int) ⊕ O)} (x l : List Int) (m : Nat) {o : O} (hl : ∀ y ∈ l, 0 ≤ y ∧ y < m) (hx : ∀ y ∈ x, 0 ≤ y ∧ y < m) (hn : l.length + x.length ≤ 1048576)
    (h : ∀ (k : Nat) (hk : k < x.length) (t : List Int), step (t, (k : Int)) = idx t x[k] (fun y => ck (y + 1) (fun _ => idx t x[k] (fun _ => ck ((k : Int) + 1) (fun _ => some (.inl (t.set (x[k] : Int).toNat (y + 1), (k : Int) + 1)))))))
    (he : step (incAll (l ++ x) (List.replicate m 0), (x.length : Int)) = some (.inr o)) : lp step (incAll l (List.replicate m 0), 0) = some o := by
  refine lp_upto (fun j => (incAll (l ++ x.take j) (List.replicate m 0), (j : Int))) x.length (by simp) (fun k hk => ?_) (by rw [List.take_length]; exact he)
  have hall : ∀ y ∈ l ++ x.take k, 0 ≤ y ∧ y < m := fun y hy => by
    rcases List.mem_append.1 hy with e | e
    · exact hl y e
    · exact hx y (List.mem_of_mem_take e)
  have hxk := hx _ (List.getElem_mem hk)
  have hc : (l ++ x.take k).count x[k] ≤ (l ++ x.take k).length := List.count_le_length
  rw [List.length_append, List.length_take] at hc
  rw [h k hk, inc_idx hall hxk, ck_of (inI (by omega) (by omega)), inc_idx hall hxk, ck_of (inI (by omega) (by omega)), inc_set hall hxk, take_succ_of hk, List.append_assoc]; rfl
def NodesOk (n m : Nat) (K V : List Int) (B C : List (List Int)) : Prop := ∀ i, i < m → BagAt n (B.getD i []) ∧ NodeAt K V B C i
theorem NodesOk.drop {n m : Nat} {K V : List Int} {B C : List (List Int)} (h : NodesOk n m K V B C) (hn : n ≤ 16) {i : Nat} (hi : i < m) (hk : K.getD i 0 = 3) : (0 ≤ V.getD i 0 ∧ V.getD i 0 < n) ∧ ∃ k, k < i ∧ (mk (B.getD k [])).testBit (V.getD i 0).toNat = true := by
  obtain ⟨h1, h2, h3⟩ := h i hi
  rcases h3 with h3 | h3 | h3 | ⟨_, k, hc, hm⟩
  · omega
  · omega
  · omega
  · have hki : k < i := by have := h2 k (by rw [hc]; simp); omega
    have := (less_iff hn (h1.2.lt) ((h k (by omega)).1.2.lt)).1 hm
    exact ⟨this.1, k, hki, this.2.1⟩
theorem mem_drops {K V : List Int} {i : Nat} {x : Int} : x ∈ dropsTo K V i ↔ ∃ j, j < i ∧ K.getD j 0 = 3 ∧ V.getD j 0 = x := by
  unfold dropsTo
  rw [List.mem_map]
  constructor
  · rintro ⟨j, hj, rfl⟩
    rw [List.mem_filter, List.mem_range, decide_eq_true_iff] at hj
    exact ⟨j, hj.1, hj.2, rfl⟩
  · rintro ⟨j, h1, h2, rfl⟩
    exact ⟨j, by rw [List.mem_filter, List.mem_range, decide_eq_true_iff]; exact ⟨h1, h2⟩, rfl⟩
theorem NodesOk.drops {n m : Nat} {K V : List Int} {B C : List (List Int)} (h : NodesOk n m K V B C) (hn : n ≤ 16) {i : Nat} (hi : i ≤ m) : ∀ x ∈ dropsTo K V i, 0 ≤ x ∧ x < n := by
  intro x hx
  obtain ⟨j, h1, h2, rfl⟩ := mem_drops.1 hx
  exact (h.drop hn (by omega) h2).1
theorem NodesOk.kids {n m : Nat} {K V : List Int} {B C : List (List Int)} (h : NodesOk n m K V B C) {i : Nat} (hi : i ≤ m) : (∀ x ∈ kidsTo C i, 0 ≤ x ∧ x < m) := by
  intro x hx
  obtain ⟨j, h1, h2⟩ := mem_kidsTo hx
  have := (h j (by omega)).2.1 x h2
  omega
theorem kidsTo_len {n m : Nat} {K V : List Int} {B C : List (List Int)} (h : NodesOk n m K V B C) (hC : C.length = m) : ∀ i, i ≤ m → (kidsTo C i).length ≤ 2 * i := by
  intro i
  induction i with
  | zero => intro _; simp [kidsTo]
  | succ i ih =>
    intro hi
    have h1 := (h i (by omega)).2.kids
    rw [List.getD_eq_getElem?_getD, List.getElem?_eq_getElem (by omega)] at h1
    rw [kidsTo_succ (by omega), List.length_append]
    have := ih (by omega)
    simp only [Option.getD_some] at h1
    omega
def WholeOk (g : List (List Int)) (m : Nat) (K V : List Int) (B C : List (List Int)) : Prop :=
  mk (B.getD (m - 1) []) = 0 ∧ (∀ v, v + 1 < m → (kidsTo C m).count (v : Int) = 1) ∧ (∀ v, v < g.length → (dropsTo K V m).count (v : Int) = 1) ∧ Covers (nb g) (B.map mk)
def NiceIs (g : List (List Int)) (K V : List Int) (B C : List (List Int)) : Prop :=
  GOk g ∧ (1 ≤ K.length ∧ K.length ≤ 200) ∧ V.length = K.length ∧ B.length = K.length ∧ C.length = K.length ∧ NodesOk g.length K.length K V B C ∧ WholeOk g K.length K V B C
section
variable {g : List (List Int)} {K V : List Int} {B C : List (List Int)} {m : Nat}
open Classical in
theorem l29Tree_eq (h : NodesOk g.length m K V B C) (hm : m ≤ 200) (h1 : 1 ≤ m) (hK : K.length = m) (hC : C.length = m) : F_spec_l29Tree K V B C = some (decide (∀ v, v + 1 < m → (kidsTo C m).count (v : Int) = 1)) := by
  unfold F_spec_l29Tree
  have hlen := kidsTo_len h hC
  have key : lp (fun s => F_spec_l29Tree_l1 C s.1 s.2) (List.replicate m (0 : Int), 0) = some (.inl (incAll (kidsTo C m) (List.replicate m 0))) := by
    refine lp_upto (fun i => (incAll (kidsTo C i) (List.replicate m 0), (i : Int))) m (by simp [kidsTo, incAll]) (fun i hi => ?_) ?_
    · simp only [F_spec_l29Tree_l1]
      have hiC : i < C.length := by omega
      have l1 := hlen i (by omega)
      have l2 := hlen (i + 1) (by omega)
      rw [kidsTo_succ hiC, List.length_append] at l2
      have hkk := h.kids (i := i + 1) (by omega)
      rw [kidsTo_succ hiC] at hkk
      have inner : lp (fun s => F_spec_l29Tree_l2 C (i : Int) s.1 s.2) (incAll (kidsTo C i) (List.replicate m 0), 0) = some (.inl (incAll (kidsTo C i ++ C[i]) (List.replicate m 0))) := by
        refine inc_loop C[i] (kidsTo C i) m (fun y hy => hkk y (List.mem_append_left _ hy)) (fun y hy => hkk y (List.mem_append_right _ hy)) (by omega) (fun k hk t => ?_) ?_
        · simp only [F_spec_l29Tree_l2]
          rw [idx_nat hiC, if_pos (by omega), idx_nat hiC, idx_nat hk]
        · simp only [F_spec_l29Tree_l2]
          rw [idx_nat hiC, if_neg (by omega)]
      rw [if_pos (by omega), bnd_l inner]
      unfold F_spec_l29Tree_k3
      rw [ck_of (inI (by omega) (by omega)), kidsTo_succ hiC]; rfl
    · simp only [F_spec_l29Tree_l1]
      rw [if_neg (by omega)]
  rw [hK, mkS_of (by omega) (by unfold lim; omega), Int.toNat_natCast, bnd_l key]
  unfold F_spec_l29Tree_k4
  have hin := h.kids (Nat.le_refl m)
  have hle : (incAll (kidsTo C m) (List.replicate m (0 : Int))).length = m := by rw [incAll_len, List.length_replicate]
  have k2 := lp_allC (step := fun s => F_spec_l29Tree_l5 (incAll (kidsTo C m) (List.replicate m 0)) s) (fun k => (k : Int)) (m - 1) (fun v => (kidsTo C m).count (v : Int) = 1) (∀ v, v + 1 < m → (kidsTo C m).count (v : Int) = 1) (oT := .inl ()) (oF := .inr false)
    ⟨fun h v hv => h v (by omega), fun h v hv => h v (by omega)⟩ ?_ ?_ ?_
  · rw [show ((0 : Nat) : Int) = 0 from rfl] at k2
    rw [k2, bnd_if]
    unfold F_spec_l29Tree_k6
    split
    · rename_i hq; rw [decide_eq_true hq]
    · rename_i hq; rw [decide_eq_false hq]
  · intro v hv _ hp
    simp only [F_spec_l29Tree_l5]
    rw [ck_of (inI (by omega) (by omega)), hle, if_pos (by omega), inc_idx hin (by omega), hp, if_neg (by decide), ck_of (inI (by omega) (by omega))]; rfl
  · intro v hv _ hp
    simp only [F_spec_l29Tree_l5]
    rw [ck_of (inI (by omega) (by omega)), hle, if_pos (by omega), inc_idx hin (by omega), if_pos (by omega)]
  · intro _
    simp only [F_spec_l29Tree_l5]
    rw [ck_of (inI (by omega) (by omega)), hle, if_neg (by omega)]
def nearOf (B : List (List Int)) (i v : Nat) : Nat := ((B.take i).map mk).foldl (fun (b m : Nat) => if m.testBit v = true then b ||| m else b) 0
theorem nearOf_succ {B : List (List Int)} {i v : Nat} (h : i < B.length) : nearOf B (i + 1) v = if (mk B[i]).testBit v = true then nearOf B i v ||| mk B[i] else nearOf B i v := by
  unfold nearOf; rw [take_succ_of h, List.map_append, List.foldl_append]; rfl
theorem nearOf_lt {B : List (List Int)} {i v k : Nat} (h : ∀ b ∈ B, mk b < 2 ^ k) : nearOf B i v < 2 ^ k := by
  unfold nearOf
  refine orFold_lt (fun x hx => ?_) 0 (Nat.two_pow_pos k)
  rw [List.mem_map] at hx
  obtain ⟨b, hb, rfl⟩ := hx
  exact h b (List.mem_of_mem_take hb)
def nears (B : List (List Int)) (n i : Nat) : List Int := (List.range n).map fun (v : Nat) => (nearOf B i v : Int)
theorem range_set {n w : Nat} {f f' : Nat → Int} {y : Int} (hw : w < n) (h1 : f' w = y) (h2 : ∀ v, v ≠ w → f' v = f v) : ((List.range n).map f).set w y = (List.range n).map f' := by
  apply List.ext_getElem
  · simp
  · intro v h3 h4
    simp only [List.length_map, List.length_range] at h4
    rw [List.getElem_set]
    by_cases e : w = v
    · subst e; rw [if_pos rfl]; simp [h1]
    · rw [if_neg e]; simp [h2 v (fun h => e h.symm)]
theorem idx_range {β : Type} {n w : Nat} {f : Nat → Int} {q : Int → Option β} (hw : w < n) : idx ((List.range n).map f) (w : Int) q = q (f w) := by
  rw [idx_nat (by simp; exact hw)]; simp
open Classical in
theorem l29Whole_eq (hg : GOk g) (h : NodesOk g.length m K V B C) (hm : m ≤ 200) (hK : K.length = m) (hV : V.length = m) (hB : B.length = m) (hC : C.length = m) :
    F_spec_l29Whole g K V B C = some (decide ((∀ v, v < g.length → (dropsTo K V m).count (v : Int) = 1) ∧ Covers (nb g) (B.map mk))) := by
  have h16 := hg.n16
  have h1 := hg.n1
  have hp := pow16 h16
  have hbag : ∀ i (hi : i < m), BagAt g.length (B[i]'(by omega)) := fun i hi => by
    have := (h i hi).1
    rwa [List.getD_eq_getElem?_getD, List.getElem?_eq_getElem (by omega)] at this
  have hbl : ∀ b ∈ B, mk b < 2 ^ g.length := fun b hb => by
    obtain ⟨i, hi, rfl⟩ := List.getElem_of_mem hb
    exact (hbag i (by omega)).2.lt
  have key : lp (fun s => F_spec_l29Whole_l1 K V B s.1 s.2.1 s.2.2) (List.replicate g.length (0 : Int), List.replicate g.length (0 : Int), 0) = some (.inl (incAll (dropsTo K V m) (List.replicate g.length 0), nears B g.length m)) := by
    refine lp_upto (fun i => (incAll (dropsTo K V i) (List.replicate g.length 0), nears B g.length i, (i : Int))) m ?_ (fun i hi => ?_) ?_
    · simp only [dropsTo, List.range_zero, List.filter_nil, List.map_nil, incAll, List.foldl_nil, nears, nearOf, List.take_zero]
      congr 2
      apply List.ext_getElem <;> simp
    · have hiB : i < B.length := by omega
      have hiK : i < K.length := by omega
      have hiV : i < V.length := by omega
      have hd := h.drops h16 (i := i) (by omega)
      have hdl := dropsTo_len K V i
      have hc : (dropsTo K V i).count V[i] ≤ (dropsTo K V i).length := List.count_le_length
      have eK : K.getD i 0 = K[i] := by simp [hiK]
      have eV : V.getD i 0 = V[i] := by simp [hiV]
      have hr := (hbag i hi).2
      have hbi := hr.len16 h16
      have hb := hbl _ (List.getElem_mem hiB)
      have inner : lp (fun s => F_spec_l29Whole_l3 B (i : Int) (mk B[i] : Int) s.1 s.2) (nears B g.length i, 0) = some (.inl (nears B g.length (i + 1))) := by
        refine lp_upto (fun j => ((List.range g.length).map (fun (v : Nat) => ((if (v : Int) ∈ B[i].take j then nearOf B i v ||| mk B[i] else nearOf B i v : Nat) : Int)), (j : Int))) B[i].length (by simp [nears]) (fun j hj => ?_) ?_
        · simp only [F_spec_l29Whole_l3]
          have hx := hr.mem (List.getElem_mem hj)
          obtain ⟨w, hw⟩ := Int.eq_ofNat_of_zero_le hx.1
          have hnw := nearOf_lt (i := i) (v := w) hbl
          rw [idx_nat hiB, if_pos (by omega), idx_nat hiB, idx_nat hj, idx_nat hiB, idx_nat hj, hw, idx_range (by omega), idx_range (by omega), ck_of (inI (by omega) (by omega)), Int.toNat_natCast]
          have hor := or_lt hnw hb
          have hval : i64or ((if (w : Int) ∈ B[i].take j then nearOf B i w ||| mk B[i] else nearOf B i w : Nat) : Int) (mk B[i] : Int) = ((nearOf B i w ||| mk B[i] : Nat) : Int) := by
            split
            · rw [i64or_nat (by omega) (by omega), Nat.or_assoc, Nat.or_self]
            · rw [i64or_nat (by omega) (by omega)]
          rw [hval, range_set (f' := fun (v : Nat) => ((if (v : Int) ∈ B[i].take (j + 1) then nearOf B i v ||| mk B[i] else nearOf B i v : Nat) : Int)) (by omega) ?_ ?_]
          · rfl
          · rw [if_pos (by rw [take_succ_of hj, hw]; simp)]
          · intro v hv
            have : (v : Int) ∈ B[i].take (j + 1) ↔ (v : Int) ∈ B[i].take j := by
              rw [take_succ_of hj, List.mem_append, List.mem_singleton, hw]
              exact ⟨fun h => h.elim id fun e => absurd (by omega) hv, .inl⟩
            simp only [this]
        · simp only [F_spec_l29Whole_l3]
          rw [idx_nat hiB, if_neg (by omega), List.take_length]
          unfold nears
          congr 3
          apply List.map_congr_left
          intro v _
          rw [nearOf_succ hiB]
          simp only [← hr.mem_mk v]
      have hk2 : F_spec_l29Whole_k2 B (nears B g.length i) (i : Int) (incAll (dropsTo K V (i + 1)) (List.replicate g.length 0)) = some (.inl (incAll (dropsTo K V (i + 1)) (List.replicate g.length 0), nears B g.length (i + 1), ((i + 1 : Nat) : Int))) := by
        unfold F_spec_l29Whole_k2
        rw [idx_nat hiB, cal_of (l25Mask_eq (fun v hv => by have := hr.mem hv; omega) (by have := hr.len16 h16; omega)), bnd_l inner]
        unfold F_spec_l29Whole_k4
        rw [ck_of (inI (by omega) (by omega))]; rfl
      simp only [F_spec_l29Whole_l1]
      rw [if_pos (by omega), idx_nat hiK]
      by_cases k3 : K[i] = 3
      · have hv := (h.drop h16 hi (by rw [eK]; exact k3)).1
        rw [eV] at hv
        rw [if_pos k3, idx_nat hiV, inc_idx hd hv, ck_of (inI (by omega) (by omega)), inc_idx hd hv, inc_set hd hv, bnd_l rfl]
        rw [dropsTo_succ, eK, if_pos k3, eV] at hk2 ⊢
        exact hk2
      · rw [if_neg k3, bnd_l rfl]
        rw [dropsTo_succ, eK, if_neg k3] at hk2 ⊢
        exact hk2
    · simp only [F_spec_l29Whole_l1]
      rw [if_neg (by omega)]
  unfold F_spec_l29Whole
  rw [mkS_of (by omega) (by unfold lim; omega), mkS_of (by omega) (by unfold lim; omega), Int.toNat_natCast, bnd_l key]
  unfold F_spec_l29Whole_k5
  rw [cal_of (l25Bits_eq hg)]
  have hd := h.drops h16 (Nat.le_refl m)
  have hle : (incAll (dropsTo K V m) (List.replicate g.length (0 : Int))).length = g.length := by rw [incAll_len, List.length_replicate]
  have hnl := nb_len g
  have hat : ∀ v (hv : v < g.length), (sdiff (mk g[v]) (nearOf B m v) = 0) ↔ ∀ j, (mk g[v]).testBit j = true → ∃ x ∈ B.map mk, x.testBit v = true ∧ x.testBit j = true := by
    intro v hv
    have e : nearOf B m v = (B.map mk).foldl (fun (b m : Nat) => if m.testBit v = true then b ||| m else b) 0 := by unfold nearOf; rw [← hB, List.take_length]
    rw [e]
    constructor
    · intro h2 j hj
      have h3 : (sdiff (mk g[v]) ((B.map mk).foldl (fun (b m : Nat) => if m.testBit v = true then b ||| m else b) 0)).testBit j = false := by rw [h2, Nat.zero_testBit]
      rw [sdiff_bit, hj, Bool.true_and, Bool.not_eq_false'] at h3
      rcases (orFold_bit (B.map mk) v 0 j).1 h3 with h4 | h4
      · rw [Nat.zero_testBit] at h4; cases h4
      · exact h4
    · intro h3
      refine bits_ext fun j => ?_
      rw [sdiff_bit, Nat.zero_testBit]
      cases e : (mk g[v]).testBit j with
      | false => rfl
      | true => rw [(orFold_bit (B.map mk) v 0 j).2 (.inr (h3 j e))]; rfl
  have k2 := lp_allC (step := fun s => F_spec_l29Whole_l6 (incAll (dropsTo K V m) (List.replicate g.length 0)) (nears B g.length m) (ints (nb g)) s) (fun k => (k : Int)) g.length (fun v => (dropsTo K V m).count (v : Int) = 1 ∧ ∀ hv : v < g.length, sdiff (mk g[v]) (nearOf B m v) = 0)
    ((∀ v, v < g.length → (dropsTo K V m).count (v : Int) = 1) ∧ Covers (nb g) (B.map mk)) (oT := .inl ()) (oF := .inr false) ?_ ?_ ?_ ?_
  · rw [show ((0 : Nat) : Int) = 0 from rfl] at k2
    rw [k2, bnd_if]
    unfold F_spec_l29Whole_k7
    split
    · rename_i hq; rw [decide_eq_true hq]
    · rename_i hq; rw [decide_eq_false hq]
  · constructor
    · rintro ⟨q1, q2⟩ v hv
      refine ⟨q1 v hv, fun hv => (hat v hv).2 ?_⟩
      have := (q2 v (by omega)).2
      rwa [nb_getD hv] at this
    · intro q
      refine ⟨fun v hv => (q v hv).1, fun v hv => ?_⟩
      rw [hnl] at hv
      refine ⟨?_, by rw [nb_getD hv]; exact (hat v hv).1 ((q v hv).2 hv)⟩
      have hmem : (v : Int) ∈ dropsTo K V m := List.count_pos_iff.1 (by have := (q v hv).1; omega)
      obtain ⟨i, hi, hk, hvv⟩ := mem_drops.1 hmem
      obtain ⟨_, k, hki, hb⟩ := h.drop h16 hi hk
      rw [hvv, Int.toNat_natCast] at hb
      refine ⟨_, ?_, hb⟩
      rw [List.getD_eq_getElem?_getD, List.getElem?_eq_getElem (by omega)]
      exact List.mem_map_of_mem (List.getElem_mem _)
  · intro v hv _ hp
    simp only [F_spec_l29Whole_l6]
    have hb := nb_lt hg (v := v) (by omega)
    have hn := nearOf_lt (i := m) (v := v) hbl
    have hgv := (hg.rows v hv).1.lt
    have hI : idx (ints (nb g)) (v : Int) = fun (q : Int → Option (Int ⊕ (Unit ⊕ Bool))) => q (mk g[v] : Int) := by
      funext q
      rw [idx_nat (by simp [ints]; omega)]
      simp [ints, nb]
    rw [hle, if_pos (by omega), inc_idx hd (by omega), hp.1, if_neg (by decide), hI]
    unfold nears
    dsimp only
    rw [idx_range hv, i64andn_nat (by omega) (by omega), hp.2 hv, if_neg (by decide), ck_of (inI (by omega) (by omega))]; rfl
  · intro v hv _ hp
    simp only [F_spec_l29Whole_l6]
    have hb := nb_lt hg (v := v) (by omega)
    have hn := nearOf_lt (i := m) (v := v) hbl
    have hgv := (hg.rows v hv).1.lt
    have hI : idx (ints (nb g)) (v : Int) = fun (q : Int → Option (Int ⊕ (Unit ⊕ Bool))) => q (mk g[v] : Int) := by
      funext q
      rw [idx_nat (by simp [ints]; omega)]
      simp [ints, nb]
    rw [hle, if_pos (by omega), inc_idx hd (by omega)]
    by_cases q1 : (dropsTo K V m).count (v : Int) = 1
    · have q2 : ¬ sdiff (mk g[v]) (nearOf B m v) = 0 := fun e => hp ⟨q1, fun _ => e⟩
      rw [q1, if_neg (by decide), hI]
      unfold nears
      dsimp only
      rw [idx_range hv, i64andn_nat (by omega) (by omega), if_pos (by omega)]
    · rw [if_pos (by omega)]
  · intro _
    simp only [F_spec_l29Whole_l6]
    rw [hle, if_neg (by omega)]
end
theorem nice_bool {p q : Prop} [Decidable p] [Decidable q] (h : p ↔ q) : some (decide p) = some (decide q) := by rw [decide_eq_decide.2 h]
open Classical in
theorem specNiceOk_eq (g : List (List Int)) (K V : List Int) (B C : List (List Int)) (hgl : g.length ≤ 1048576) (hl : ∀ x ∈ g, x.length ≤ 1048576) (hbl : ∀ x ∈ B, x.length ≤ 1048576) (hcl : ∀ x ∈ C, x.length ≤ 1048576) :
    F_spec_NiceOk g K V B C = some (decide (NiceIs g K V B C)) := by
  unfold F_spec_NiceOk
  rw [cal_of (specGraphOk_eq g hl)]
  by_cases hg : GOk g
  case neg => rw [if_pos (by simpa using hg)]; exact congrArg some (decide_eq_false (fun h => hg h.1)).symm
  rw [if_neg (by simpa using hg)]
  by_cases c1 : 1 ≤ K.length
  case neg => rw [if_pos (by omega)]; exact congrArg some (decide_eq_false (fun h => c1 h.2.1.1)).symm
  rw [if_neg (by omega)]
  by_cases c2 : K.length ≤ 200
  case neg => rw [if_pos (by omega)]; exact congrArg some (decide_eq_false (fun h => c2 h.2.1.2)).symm
  rw [if_neg (by omega)]
  by_cases c3 : V.length = K.length
  case neg => rw [if_pos (by omega)]; exact congrArg some (decide_eq_false (fun h => c3 h.2.2.1)).symm
  rw [if_neg (by omega)]
  by_cases c4 : B.length = K.length
  case neg => rw [if_pos (by omega)]; exact congrArg some (decide_eq_false (fun h => c4 h.2.2.2.1)).symm
  rw [if_neg (by omega)]
  by_cases c5 : C.length = K.length
  case neg => rw [if_pos (by omega)]; exact congrArg some (decide_eq_false (fun h => c5 h.2.2.2.2.1)).symm
  rw [if_neg (by omega)]
  have hN : NiceIs g K V B C ↔ NodesOk g.length K.length K V B C ∧ WholeOk g K.length K V B C := ⟨fun h => h.2.2.2.2.2, fun h => ⟨hg, ⟨c1, c2⟩, c3, c4, c5, h⟩⟩
  have key := lp_allC (step := fun s => F_spec_NiceOk_l1 g K V B C s) (fun k => (k : Int)) K.length (fun i => BagAt g.length (B.getD i []) ∧ NodeAt K V B C i) (NodesOk g.length K.length K V B C) (oT := .inl ()) (oF := .inr false) Iff.rfl ?_ ?_ ?_
  · rw [show ((0 : Nat) : Int) = 0 from rfl] at key
    rw [key, bnd_if]
    by_cases hn : NodesOk g.length K.length K V B C
    case neg => rw [if_neg hn]; exact congrArg some (decide_eq_false (fun h => hn (hN.1 h).1)).symm
    rw [if_pos hn]
    unfold F_spec_NiceOk_k2
    have e1 : (K.length : Int) - 1 = ((K.length - 1 : Nat) : Int) := by omega
    have hlast := (hn (K.length - 1) (by omega)).1.2
    have eB : B.getD (K.length - 1) [] = B[K.length - 1]'(by omega) := by rw [List.getD_eq_getElem?_getD, List.getElem?_eq_getElem (by omega)]; rfl
    rw [ck_of (inI (by omega) (by omega)), e1, idx_nat (by omega)]
    by_cases h0 : B[K.length - 1]'(by omega) = []
    · rw [if_pos (by rw [h0]; rfl), cal_of (l29Tree_eq hn c2 c1 rfl c5)]
      by_cases ht : ∀ v, v + 1 < K.length → (kidsTo C K.length).count (v : Int) = 1
      · rw [if_pos (by rw [decide_eq_true_iff]; exact ht), cal_of (l29Whole_eq hg hn c2 rfl c3 c4 c5)]
        refine nice_bool (Iff.trans ?_ hN.symm)
        exact ⟨fun h => ⟨hn, by rw [eB, h0]; rfl, ht, h⟩, fun h => h.2.2.2⟩
      · rw [if_neg (by rw [decide_eq_true_iff]; exact ht)]
        exact congrArg some (decide_eq_false (fun h => ht (hN.1 h).2.2.1)).symm
    · have h0' : (B[K.length - 1]'(by omega)).length ≠ 0 := fun h => h0 (List.length_eq_zero_iff.1 h)
      rw [if_neg (by omega)]
      refine congrArg some (decide_eq_false (fun h => h0 ?_)).symm
      have := (hN.1 h).2.1
      rw [eB] at this
      rw [eB] at hlast
      exact (mk_nil_iff hlast).1 this
  · intro i hi hb hp
    simp only [F_spec_NiceOk_l1]
    rw [if_pos (by omega), cal_of (l29Node_eq hg.n16 c2 hi rfl c3 c4 c5 hcl hbl (fun j hj => (hb j hj).1)), if_neg (by rw [decide_eq_true_iff]; exact fun h => h hp), ck_of (inI (by omega) (by omega))]; rfl
  · intro i hi hb hp
    simp only [F_spec_NiceOk_l1]
    rw [if_pos (by omega), cal_of (l29Node_eq hg.n16 c2 hi rfl c3 c4 c5 hcl hbl (fun j hj => (hb j hj).1)), if_pos (by rw [decide_eq_true_iff]; exact hp)]
  · intro _
    simp only [F_spec_NiceOk_l1]
    rw [if_neg (by omega)]
open Classical in
theorem implNiceOk_eq (g : List (List Int)) (K V : List Int) (B C : List (List Int)) (hgl : g.length ≤ 1048576) (hl : ∀ x ∈ g, x.length ≤ 1048576) (hbl : ∀ x ∈ B, x.length ≤ 1048576) (hcl : ∀ x ∈ C, x.length ≤ 1048576) :
    F_impl_NiceOk g K V B C = some (decide (NiceIs g K V B C)) := by
  unfold F_impl_NiceOk
  rw [cal_of (implGraphOk_eq g hgl hl)]
  by_cases hg : GOk g
  case neg => rw [if_pos (by simpa using hg)]; exact congrArg some (decide_eq_false (fun h => hg h.1)).symm
  rw [if_neg (by simpa using hg)]
  by_cases c1 : 1 ≤ K.length
  case neg => rw [if_pos (by omega)]; exact congrArg some (decide_eq_false (fun h => c1 h.2.1.1)).symm
  rw [if_neg (by omega)]
  by_cases c2 : K.length ≤ 200
  case neg => rw [if_pos (by omega)]; exact congrArg some (decide_eq_false (fun h => c2 h.2.1.2)).symm
  rw [if_neg (by omega)]
  by_cases c3 : V.length = K.length
  case neg => rw [if_pos (by omega)]; exact congrArg some (decide_eq_false (fun h => c3 h.2.2.1)).symm
  rw [if_neg (by omega)]
  by_cases c4 : B.length = K.length
  case neg => rw [if_pos (by omega)]; exact congrArg some (decide_eq_false (fun h => c4 h.2.2.2.1)).symm
  rw [if_neg (by omega)]
  by_cases c5 : C.length = K.length
  case neg => rw [if_pos (by omega)]; exact congrArg some (decide_eq_false (fun h => c5 h.2.2.2.2.1)).symm
  rw [if_neg (by omega)]
  have h16 := hg.n16
  have h1 := hg.n1
  have hp := pow16 h16
  have hN : NiceIs g K V B C ↔ NodesOk g.length K.length K V B C ∧ WholeOk g K.length K V B C := ⟨fun h => h.2.2.2.2.2, fun h => ⟨hg, ⟨c1, c2⟩, c3, c4, c5, h⟩⟩
  have key := lp_allC (step := fun s => F_impl_NiceOk_l1 g B s) (fun k => (k : Int)) B.length (fun i => BagAt g.length (B.getD i [])) (∀ i, i < B.length → BagAt g.length (B.getD i [])) (oT := .inl ()) (oF := .inr false) Iff.rfl ?_ ?_ ?_
  · rw [show ((0 : Nat) : Int) = 0 from rfl] at key
    rw [key, bnd_if]
    by_cases hb : ∀ i, i < B.length → BagAt g.length (B.getD i [])
    case neg => rw [if_neg hb]; exact congrArg some (decide_eq_false (fun h => hb fun i hi => ((hN.1 h).1 i (by omega)).1)).symm
    rw [if_pos hb]
    have hbm : ∀ b ∈ B, BagAt g.length b := fun b hbb => by
      obtain ⟨i, hi, rfl⟩ := List.getElem_of_mem hbb
      have := hb i hi
      rwa [List.getD_eq_getElem?_getD, List.getElem?_eq_getElem hi] at this
    unfold F_impl_NiceOk_k2
    rw [cal_of (bagMasks_eq (by omega) (fun b hbb v hv => by have := (hbm b hbb).2.mem hv; omega) hbl), mkS_of (by omega) (by unfold lim; omega), mkS_of (by omega) (by unfold lim; omega), Int.toNat_natCast, Int.toNat_natCast]
    have k3 := lp_allC (step := fun s => F_impl_NiceOk_l3 g K V B C (bvs (B.map mk)) s.1 s.2.1 s.2.2) (fun i => (incAll (kidsTo C i) (List.replicate K.length 0), incAll (dropsTo K V i) (List.replicate g.length 0), (i : Int))) K.length (fun i => NodeAt K V B C i) (NodesOk g.length K.length K V B C)
      (oT := .inl (incAll (kidsTo C K.length) (List.replicate K.length 0), incAll (dropsTo K V K.length) (List.replicate g.length 0))) (oF := .inr false) ⟨fun h i hi => (h i hi).2, fun h i hi => ⟨hb i (by omega), h i hi⟩⟩ ?_ ?_ ?_
    · rw [show (incAll (kidsTo C 0) (List.replicate K.length (0 : Int)), incAll (dropsTo K V 0) (List.replicate g.length (0 : Int)), ((0 : Nat) : Int)) = (List.replicate K.length (0 : Int), List.replicate g.length (0 : Int), 0) from rfl] at k3
      rw [k3]
      by_cases hn : NodesOk g.length K.length K V B C
      case neg => rw [if_neg hn, bnd_r rfl]; exact congrArg some (decide_eq_false (fun h => hn (hN.1 h).1)).symm
      rw [if_pos hn, bnd_l rfl]
      unfold F_impl_NiceOk_k6
      have hin := hn.kids (Nat.le_refl _)
      have hle : (incAll (kidsTo C K.length) (List.replicate K.length (0 : Int))).length = K.length := by rw [incAll_len, List.length_replicate]
      have hz : (kidsTo C K.length).count ((K.length - 1 : Nat) : Int) = 0 := by
        rw [List.count_eq_zero]
        intro hx
        obtain ⟨j, h2, h3⟩ := mem_kidsTo hx
        have := (hn j h2).2.1 _ h3
        omega
      have k4 := lp_allC (step := fun s => F_impl_NiceOk_l7 K (incAll (kidsTo C K.length) (List.replicate K.length 0)) s) (fun k => (k : Int)) K.length (fun v => v + 1 < K.length → (kidsTo C K.length).count (v : Int) = 1) (∀ v, v + 1 < K.length → (kidsTo C K.length).count (v : Int) = 1) (oT := .inl ()) (oF := .inr false)
        ⟨fun h v _ => h v, fun h v hv => h v (by omega) hv⟩ ?_ ?_ ?_
      · rw [show ((0 : Nat) : Int) = 0 from rfl] at k4
        rw [k4, bnd_if]
        by_cases ht : ∀ v, v + 1 < K.length → (kidsTo C K.length).count (v : Int) = 1
        case neg => rw [if_neg ht]; exact congrArg some (decide_eq_false (fun h => ht (hN.1 h).2.2.1)).symm
        rw [if_pos ht]
        unfold F_impl_NiceOk_k8
        have e1 : (K.length : Int) - 1 = ((K.length - 1 : Nat) : Int) := by omega
        have hlast := (hn (K.length - 1) (by omega)).1.2
        have eB : B.getD (K.length - 1) [] = B[K.length - 1]'(by omega) := by rw [List.getD_eq_getElem?_getD, List.getElem?_eq_getElem (by omega)]; rfl
        have hlt := hlast.lt
        rw [eB] at hlt
        rw [ck_of (inI (by omega) (by omega)), e1, idx_bvs (by rw [List.length_map]; omega), List.getElem_map]
        by_cases h0 : mk (B[K.length - 1]'(by omega)) = 0
        · have hdl : (incAll (dropsTo K V K.length) (List.replicate g.length (0 : Int))).length = g.length := by rw [incAll_len, List.length_replicate]
          have hd := hn.drops h16 (Nat.le_refl _)
          rw [if_pos (by rw [h0])]
          dsimp only
          rw [hasF_int _ _ (fun d => decide (d ≠ 1)) (by omega) (fun x _ => by unfold F_impl_NiceOk_1; rfl), cal_some_eq]
          have hany : (incAll (dropsTo K V K.length) (List.replicate g.length (0 : Int))).any (fun d => decide (d ≠ 1)) = true ↔ ¬ ∀ v, v < g.length → (dropsTo K V K.length).count (v : Int) = 1 := by
            rw [List.any_eq_true]
            constructor
            · rintro ⟨x, hx, h2⟩ h3
              obtain ⟨v, hv, rfl⟩ := List.getElem_of_mem hx
              rw [hdl] at hv
              have := inc_val hd hv
              rw [List.getD_eq_getElem?_getD, List.getElem?_eq_getElem (by omega), Option.getD_some, h3 v hv] at this
              rw [decide_eq_true_iff] at h2
              exact h2 this
            · intro h3
              refine Classical.byContradiction fun h4 => h3 fun v hv => Classical.byContradiction fun h5 => h4 ⟨_, List.getElem_mem (show v < _ by rw [hdl]; exact hv), ?_⟩
              have := inc_val hd hv
              rw [List.getD_eq_getElem?_getD, List.getElem?_eq_getElem (by omega), Option.getD_some] at this
              rw [decide_eq_true_iff, this]
              omega
          by_cases hw : ∀ v, v < g.length → (dropsTo K V K.length).count (v : Int) = 1
          · rw [if_pos (by rw [hany]; exact fun h => h hw), cal_of (netsOf_eq hg), cal_of (coversEdges_eq (by rw [nb_len]; exact h16) (fun v hv => nb_lt16 hg hv) (by rw [List.length_map]; omega) (fun x hx => by
              rw [List.mem_map] at hx
              obtain ⟨b, hbb, rfl⟩ := hx
              have := (hbm b hbb).2.lt
              omega))]
            refine nice_bool (Iff.trans ?_ hN.symm)
            exact ⟨fun h => ⟨hn, by rw [eB]; exact h0, ht, hw, h⟩, fun h => h.2.2.2.2⟩
          · rw [if_neg (by rw [hany]; exact fun h => h hw)]
            exact congrArg some (decide_eq_false (fun h => hw (hN.1 h).2.2.2.1)).symm
        · rw [if_neg (by rw [bv_inj (by omega) (by decide)]; exact h0)]
          refine congrArg some (decide_eq_false (fun h => h0 ?_)).symm
          have := (hN.1 h).2.1
          rwa [eB] at this
      · intro v hv _ hpv
        simp only [F_impl_NiceOk_l7]
        rw [hle, if_pos (by omega), inc_idx hin (by omega), ck_of (inI (by omega) (by omega))]
        by_cases hvm : v + 1 < K.length
        · rw [hpv hvm, if_neg (by rw [decide_eq_true (by rfl), decide_eq_true (by omega)]; decide), if_neg (by decide), ck_of (inI (by omega) (by omega))]; rfl
        · obtain rfl : v = K.length - 1 := by omega
          rw [hz, if_neg (by rw [decide_eq_false (by decide), decide_eq_false (by omega)]; decide), if_neg (by decide), ck_of (inI (by omega) (by omega))]; rfl
      · intro v hv _ hpv
        simp only [F_impl_NiceOk_l7]
        have hvm : v + 1 < K.length := Classical.byContradiction fun h => hpv fun h' => absurd h' h
        have hne : ¬ (kidsTo C K.length).count (v : Int) = 1 := fun h => hpv fun _ => h
        rw [hle, if_pos (by omega), inc_idx hin (by omega), ck_of (inI (by omega) (by omega)), if_pos (by rw [decide_eq_false (by omega), decide_eq_true (by omega)]; decide)]
      · intro _
        simp only [F_impl_NiceOk_l7]
        rw [hle, if_neg (by omega)]
    · intro i hi hbef hp
      have hnk : NodesOk g.length (i + 1) K V B C := fun j hj => ⟨hb j (by omega), by rcases Nat.lt_succ_iff_lt_or_eq.1 hj with e | e; exact hbef j e; rw [e]; exact hp⟩
      have hiC : i < C.length := by omega
      have hiK : i < K.length := hi
      have hiV : i < V.length := by omega
      have eK : K.getD i 0 = K[i] := by simp [hiK]
      have eV : V.getD i 0 = V[i] := by simp [hiV]
      have eC : C.getD i [] = C[i] := by simp [hiC]
      have l1 : (kidsTo C i).length ≤ 2 * i := by
        have key2 : ∀ j, j ≤ i → (kidsTo C j).length ≤ 2 * j := by
          intro j
          induction j with
          | zero => intro _; simp [kidsTo]
          | succ j ih =>
            intro hj
            have h5 := (hnk j (by omega)).2.kids
            rw [List.getD_eq_getElem?_getD, List.getElem?_eq_getElem (by omega)] at h5
            rw [kidsTo_succ (by omega), List.length_append]
            have := ih (by omega)
            simp only [Option.getD_some] at h5
            omega
        exact key2 i (Nat.le_refl _)
      have l2 := hp.kids
      rw [eC] at l2
      have hkk : ∀ x ∈ kidsTo C i ++ C[i], 0 ≤ x ∧ x < K.length := fun x hx => by
        rw [← kidsTo_succ hiC] at hx
        have := hnk.kids (Nat.le_refl _) x hx
        omega
      have hd := hnk.drops h16 (i := i) (by omega)
      have hdl := dropsTo_len K V i
      have hc : (dropsTo K V i).count V[i] ≤ (dropsTo K V i).length := List.count_le_length
      have inner : lp (fun s => F_impl_NiceOk_l4 C[i] s.1 s.2) (incAll (kidsTo C i) (List.replicate K.length 0), 0) = some (.inl (incAll (kidsTo C i ++ C[i]) (List.replicate K.length 0))) := by
        refine inc_loop C[i] (kidsTo C i) K.length (fun y hy => hkk y (List.mem_append_left _ hy)) (fun y hy => hkk y (List.mem_append_right _ hy)) (by omega) (fun k hk t => ?_) ?_
        · simp only [F_impl_NiceOk_l4]
          rw [if_pos (by omega), idx_nat hk]
        · simp only [F_impl_NiceOk_l4]
          rw [if_neg (by omega)]
      simp only [F_impl_NiceOk_l3]
      rw [if_pos (by omega), cal_of (goodNode_eq h16 h1 c2 hi rfl c3 c4 c5 hcl (fun b hbb => (hbm b hbb).2)), if_neg (by rw [decide_eq_true_iff]; exact fun h => h hp), idx_nat hiC, bnd_l inner]
      unfold F_impl_NiceOk_k5
      rw [idx_nat hiK]
      by_cases k3 : K[i] = 3
      · have hv := (hnk.drop h16 (Nat.lt_succ_self i) (by rw [eK]; exact k3)).1
        rw [eV] at hv
        rw [if_pos k3, idx_nat hiV, inc_idx hd hv, ck_of (inI (by omega) (by omega)), inc_idx hd hv, ck_of (inI (by omega) (by omega)), inc_set hd hv, kidsTo_succ hiC, dropsTo_succ, eK, if_pos k3, eV]; rfl
      · rw [if_neg k3, ck_of (inI (by omega) (by omega)), kidsTo_succ hiC, dropsTo_succ, eK, if_neg k3]; rfl
    · intro i hi hbef hp
      simp only [F_impl_NiceOk_l3]
      rw [if_pos (by omega), cal_of (goodNode_eq h16 h1 c2 hi rfl c3 c4 c5 hcl (fun b hbb => (hbm b hbb).2)), if_pos (by rw [decide_eq_true_iff]; exact hp)]
    · intro _
      simp only [F_impl_NiceOk_l3]
      rw [if_neg (by omega)]
  · intro i hi _ hp
    simp only [F_impl_NiceOk_l1]
    rw [List.getD_eq_getElem?_getD, List.getElem?_eq_getElem hi, Option.getD_some] at hp
    have := hbl _ (List.getElem_mem hi)
    rw [if_pos (by omega), idx_nat hi, if_neg (by have := hp.1; omega), cal_of (increasing_eq _ _ (by omega) (by omega) (by omega)), if_neg (by rw [decide_eq_true_iff]; exact fun h => h hp.2), ck_of (inI (by omega) (by omega))]; rfl
  · intro i hi _ hp
    simp only [F_impl_NiceOk_l1]
    rw [List.getD_eq_getElem?_getD, List.getElem?_eq_getElem hi, Option.getD_some] at hp
    have := hbl _ (List.getElem_mem hi)
    rw [if_pos (by omega), idx_nat hi]
    by_cases h8 : B[i].length ≤ 8
    · rw [if_neg (by omega), cal_of (increasing_eq _ _ (by omega) (by omega) (by omega)), if_pos (by rw [decide_eq_true_iff]; exact fun h => hp ⟨h8, h⟩)]
    · rw [if_pos (by omega)]
  · intro _
    simp only [F_impl_NiceOk_l1]
    rw [if_neg (by omega)]
end Go.Proofs.Ytnebbhginakaiaa

/- Lines that cross: who crosses whom, as sets; the lists that follow, both sides. -/
import Derived.Test.YtbcjeljppgojgaaDoorLongest
namespace Go.Proofs.YtbcjeljppgojgaaDoor
/-- the numbers below n of a kind, as a set -/
def bset (n : Nat) (p : Nat → Bool) : Nat := mk (ints ((List.range n).filter p))
theorem bset_bit (n : Nat) (p : Nat → Bool) (j : Nat) : (bset n p).testBit j = (decide (j < n) && p j) := by
  unfold bset
  rw [mk_mem (fun x hx => by unfold ints at hx; obtain ⟨v, _, rfl⟩ := List.mem_map.1 hx; omega)]
  have : ((j : Int) ∈ ints ((List.range n).filter p)) ↔ (j < n ∧ p j = true) := by
    unfold ints
    rw [List.mem_map]
    constructor
    · rintro ⟨v, hv, e⟩
      obtain rfl : v = j := by omega
      rw [List.mem_filter, List.mem_range] at hv; exact hv
    · intro h; exact ⟨j, by rw [List.mem_filter, List.mem_range]; exact h, rfl⟩
  rw [Bool.eq_iff_iff, decide_eq_true_eq, this, Bool.and_eq_true, decide_eq_true_eq]
theorem bset_lt (n : Nat) (p : Nat → Bool) : bset n p < 2 ^ n := by
  apply Nat.lt_pow_two_of_testBit
  intro j hj
  rw [bset_bit, decide_eq_false (by omega)]; rfl
theorem bset_congr {n : Nat} {p p' : Nat → Bool} (h : ∀ j, j < n → p j = p' j) : bset n p = bset n p' := by
  apply bits_ext; intro j
  rw [bset_bit, bset_bit]
  by_cases hj : j < n
  · rw [h j hj]
  · rw [decide_eq_false hj]; rfl
theorem els_bset {n : Nat} (hn : n ≤ 16) (p : Nat → Bool) : els (bset n p) = (List.range n).filter p := by
  rw [els_range hn (bset_lt n p)]
  refine List.filter_congr fun v hv => ?_
  rw [bset_bit, decide_eq_true (List.mem_range.1 hv)]; rfl
def tabB (n : Nat) (D : Nat → Nat → Bool) : List (BitVec 32) := (List.range n).map fun x => BitVec.ofNat 32 (bset n (D x))
theorem tabB_len (n : Nat) (D : Nat → Nat → Bool) : (tabB n D).length = n := by simp [tabB]
theorem tabB_get {n : Nat} {D : Nat → Nat → Bool} {x : Nat} (h : x < (tabB n D).length) : (tabB n D)[x] = BitVec.ofNat 32 (bset n (D x)) := by simp [tabB]
theorem tabB_congr {n : Nat} {D D' : Nat → Nat → Bool} (h : ∀ x y, x < n → y < n → D x y = D' x y) : tabB n D = tabB n D' := by
  unfold tabB
  refine List.map_congr_left fun x hx => ?_
  rw [bset_congr fun y hy => h x y (List.mem_range.1 hx) hy]
theorem idx_tabB {β : Type} {n : Nat} {D : Nat → Nat → Bool} {x : Nat} {q : BitVec 32 → Option β} (h : x < n) : idx (tabB n D) (x : Int) q = q (BitVec.ofNat 32 (bset n (D x))) := by
  rw [idx_nat (by rw [tabB_len]; exact h), tabB_get]
/-- one row anew -/
theorem tabB_set {n : Nat} {D D' : Nat → Nat → Bool} {v m : Nat} (hv : v < n) (hm : ∀ j, m.testBit j = (decide (j < n) && D' v j)) (h : ∀ x, x < n → x ≠ v → ∀ y, D' x y = D x y) : (tabB n D).set v (BitVec.ofNat 32 m) = tabB n D' := by
  apply List.ext_getElem
  · rw [List.length_set, tabB_len, tabB_len]
  · intro x h1 h2
    rw [List.length_set, tabB_len] at h1
    rw [List.getElem_set, tabB_get, tabB_get]
    by_cases e : v = x
    · subst e
      rw [if_pos rfl, show m = bset n (D' v) from bits_ext fun j => by rw [hm, bset_bit]]
    · rw [if_neg e, bset_congr fun y _ => (h x h1 (Ne.symm e) y).symm]
/-- two cross: they stand one way round in a and the other way round in b -/
def crossV (a b : List Int) (u v : Nat) : Bool := decide (a.idxOf (u : Int) < a.idxOf (v : Int)) != decide (b.idxOf (u : Int) < b.idxOf (v : Int))
section
variable {a b : List Int}
theorem crossV_sym (hab : Lines a b) {u v : Nat} (hu : u < a.length) (hv : v < a.length) (hne : u ≠ v) : crossV a b u v = crossV a b v u := by
  have h1 : a.idxOf (u : Int) ≠ a.idxOf (v : Int) := fun e => hne ((place_inj hab.1.2 hu hv).1 e)
  have h2 : b.idxOf (u : Int) ≠ b.idxOf (v : Int) := fun e => hne ((place_inj hab.2.1.2 (u := u) (v := v) (by rw [← hab.2.2]; exact hu) (by rw [← hab.2.2]; exact hv)).1 e)
  unfold crossV
  generalize a.idxOf (u : Int) = p at *
  generalize a.idxOf (v : Int) = q at *
  generalize b.idxOf (u : Int) = r at *
  generalize b.idxOf (v : Int) = s at *
  rw [Bool.eq_iff_iff]
  simp only [bne_iff_ne, ne_eq, decide_eq_decide]
  omega
theorem crossings_val (ha : a.length ≤ 1048576) (hb : b.length ≤ 1048576) (hab : Lines a b) : F_impl_crossings a b = some (tabB a.length (fun x y => decide (x ≠ y) && crossV a b x y), true) := by
  obtain ⟨h1, h2, h3⟩ := hab
  have hsym := @crossV_sym a b ⟨h1, h2, h3⟩
  unfold F_impl_crossings
  rw [cal_of (placesIn_all ha), cal_of (placesIn_all hb), if_pos h1, if_neg (by simp), if_pos h2, if_neg (by simp), if_neg (by omega), mkS_of (by omega) (by unfold lim; omega), Int.toNat_natCast]
  have hn := h1.1
  have P : ∀ {β : Type} (o : List Int) (v : Nat) (hv : v < o.length) (q : Int → Option β), idx (placesOf o.length o) (v : Int) q = q (o.idxOf (v : Int)) := fun o v hv q => by unfold placesOf; exact ridx hv
  have hpl : (placesOf a.length a).length = a.length := by unfold placesOf; simp
  let D : Nat → Nat → Nat → Nat → Bool := fun k j x y => decide (x ≠ y) && (crossV a b x y && decide ((x < k ∧ y < k) ∨ (x = k ∧ y < j) ∨ (y = k ∧ x < j)))
  have inner : ∀ u, u < a.length → lp (fun s => F_impl_crossings_l2 (placesOf a.length a, true) (placesOf b.length b, true) (u : Int) s.1 s.2) (tabB a.length (D u 0), 0) = some (.inl (tabB a.length (D u u))) := by
    intro u hu
    refine lp_upto (fun j => (tabB a.length (D u j), (j : Int))) u rfl (fun v hv => ?_) ?_
    · simp only [F_impl_crossings_l2]
      rw [if_pos (by omega), P a u hu, P a v (by omega), P b u (by omega), P b v (by omega)]
      have hc : (decide ((a.idxOf (u : Int) : Int) < (a.idxOf (v : Int) : Int)) != decide ((b.idxOf (u : Int) : Int) < (b.idxOf (v : Int) : Int))) = crossV a b u v := by
        unfold crossV
        simp only [Int.ofNat_lt]
      rw [hc]
      by_cases c : crossV a b u v = true
      · rw [if_pos c]
        unfold F_impl_nets_join
        have hset : ∀ (m : Nat), (∀ j, m.testBit j = (decide (j < a.length) && (D u v u j || decide (j = v)))) → (tabB a.length (D u v)).set u (BitVec.ofNat 32 m) = tabB a.length (fun x y => D u v x y || (decide (x = u) && decide (y = v))) := fun m hm => by
          refine tabB_set hu (fun j => by rw [hm]; simp) (fun x hx hne y => by simp [hne])
        have hset2 : ∀ (m : Nat), (∀ j, m.testBit j = (decide (j < a.length) && (D u v v j || decide (j = u)))) → (tabB a.length (fun x y => D u v x y || (decide (x = u) && decide (y = v)))).set v (BitVec.ofNat 32 m) = tabB a.length (D u (v + 1)) := fun m hm => by
          refine (tabB_set (D' := fun x y => D u v x y || ((decide (x = u) && decide (y = v)) || (decide (x = v) && decide (y = u)))) (by omega) (fun j => by rw [hm]; simp [show ¬ v = u by omega]) (fun x hx hne y => by simp [hne])).trans ?_
          refine tabB_congr fun x y hx hy => ?_
          show ((decide (x ≠ y) && (crossV a b x y && decide ((x < u ∧ y < u) ∨ (x = u ∧ y < v) ∨ (y = u ∧ x < v)))) || ((decide (x = u) && decide (y = v)) || (decide (x = v) && decide (y = u)))) = (decide (x ≠ y) && (crossV a b x y && decide ((x < u ∧ y < u) ∨ (x = u ∧ y < v + 1) ∨ (y = u ∧ x < v + 1))))
          by_cases e1 : x = u ∧ y = v
          · obtain ⟨rfl, rfl⟩ := e1
            rw [c, Bool.eq_iff_iff]; simp; omega
          · by_cases e2 : x = v ∧ y = u
            · obtain ⟨rfl, rfl⟩ := e2
              rw [hsym hx hy (by omega), c, Bool.eq_iff_iff]; simp; omega
            · rw [show (decide (x = u) && decide (y = v)) = false by simp; omega, show (decide (x = v) && decide (y = u)) = false by simp; omega, Bool.or_false, Bool.or_false]
              congr 2
              rw [decide_eq_decide]; omega
        rw [idx_tabB hu, cal_of (one_eq (by omega)), idx_tabB hu, Int.toNat_natCast, bv_or, hset _ (fun j => by
          rw [Nat.testBit_or, bset_bit, Nat.testBit_two_pow]
          by_cases e : v = j
          · subst e; simp; omega
          · simp [e, Ne.symm e]), idx_tabB (by omega), cal_of (one_eq (by omega)), idx_tabB (by omega), bv_or, Int.toNat_natCast, hset2 _ (fun j => by
          rw [Nat.testBit_or, bset_bit, Nat.testBit_two_pow]
          by_cases e : u = j
          · subst e; simp; omega
          · simp [e, Ne.symm e, show ¬ v = u by omega]), cal_some_eq, ck_of (inI (by omega) (by omega))]
        rfl
      · rw [if_neg c, ck_of (inI (by omega) (by omega))]
        refine inl_eq (pair_eq ?_ rfl)
        refine tabB_congr fun x y hx hy => ?_
        show (decide (x ≠ y) && (crossV a b x y && decide ((x < u ∧ y < u) ∨ (x = u ∧ y < v) ∨ (y = u ∧ x < v)))) = (decide (x ≠ y) && (crossV a b x y && decide ((x < u ∧ y < u) ∨ (x = u ∧ y < v + 1) ∨ (y = u ∧ x < v + 1))))
        by_cases e : (x = u ∧ y = v) ∨ (x = v ∧ y = u)
        · have : crossV a b x y = false := by
            rcases e with ⟨rfl, rfl⟩ | ⟨rfl, rfl⟩
            · simpa using c
            · rw [hsym hx hy (by omega)]; simpa using c
          rw [this]; simp
        · congr 2
          rw [decide_eq_decide]; omega
    · simp only [F_impl_crossings_l2]
      rw [if_neg (by omega)]
  have outer := lp_upto (step := fun s => F_impl_crossings_l1 (placesOf a.length a, true) (placesOf b.length b, true) s.1 s.2) (fun k => (tabB a.length (D k 0), (k : Int))) a.length (s := (List.replicate a.length (0 : BitVec 32), (0 : Int))) ?_ (fun u hu => ?_) (o := .inl (tabB a.length (fun x y => decide (x ≠ y) && crossV a b x y))) ?_
  · rw [outer]; rfl
  · refine pair_eq ?_ rfl
    apply List.ext_getElem
    · rw [List.length_replicate, tabB_len]
    · intro x h5 h6
      rw [tabB_get, List.getElem_replicate]
      have : bset a.length (D 0 0 x) = 0 := bits_ext fun j => by
        rw [bset_bit, Nat.zero_testBit]
        show (decide (j < a.length) && (decide (x ≠ j) && (crossV a b x j && decide ((x < 0 ∧ j < 0) ∨ (x = 0 ∧ j < 0) ∨ (j = 0 ∧ x < 0))))) = false
        rw [decide_eq_false (show ¬ ((x < 0 ∧ j < 0) ∨ (x = 0 ∧ j < 0) ∨ (j = 0 ∧ x < 0)) by omega)]; simp
      rw [this]; rfl
  · simp only [F_impl_crossings_l1]
    rw [hpl, if_pos (by omega), bnd_l (inner u hu)]
    unfold F_impl_crossings_k3
    rw [ck_of (inI (by omega) (by omega))]
    refine inl_eq (pair_eq ?_ rfl)
    refine tabB_congr fun x y hx hy => ?_
    show (decide (x ≠ y) && (crossV a b x y && decide ((x < u ∧ y < u) ∨ (x = u ∧ y < u) ∨ (y = u ∧ x < u)))) = (decide (x ≠ y) && (crossV a b x y && decide ((x < u + 1 ∧ y < u + 1) ∨ (x = u + 1 ∧ y < 0) ∨ (y = u + 1 ∧ x < 0))))
    by_cases e : x = y
    · simp [e]
    · congr 2
      rw [decide_eq_decide]; omega
  · simp only [F_impl_crossings_l1]
    rw [hpl, if_neg (by omega)]
    congr 3
    refine tabB_congr fun x y hx hy => ?_
    show (decide (x ≠ y) && (crossV a b x y && decide ((x < a.length ∧ y < a.length) ∨ (x = a.length ∧ y < 0) ∨ (y = a.length ∧ x < 0)))) = (decide (x ≠ y) && crossV a b x y)
    rw [show decide ((x < a.length ∧ y < a.length) ∨ (x = a.length ∧ y < 0) ∨ (y = a.length ∧ x < 0)) = true from decide_eq_true (Or.inl ⟨hx, hy⟩), Bool.and_true]
end
end Go.Proofs.YtbcjeljppgojgaaDoor

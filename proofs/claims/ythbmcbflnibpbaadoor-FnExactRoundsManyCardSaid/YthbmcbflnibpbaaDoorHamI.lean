/- Ways through a set of vertices, as the program looks for them. -/
import Derived.Test.YthbmcbflnibpbaaDoorHam
namespace Go.Proofs.YthbmcbflnibpbaaDoor
theorem bv_ofInt (n : Nat) : BitVec.ofInt 32 (n : Int) = BitVec.ofNat 32 n := by simp
theorem full_bit {n j : Nat} : (2 ^ n - 1).testBit j = decide (j < n) := Nat.testBit_two_pow_sub_one ..
section
variable {a : List Nat} {last : Nat}
theorem fold_bit (c : Nat → Bool) : ∀ (l : List Nat) (b j : Nat), (l.foldl (fun (b u : Nat) => if c u = true then b ||| 2 ^ u else b) b).testBit j = (b.testBit j || decide (j ∈ l ∧ c j = true))
  | [], b, j => by simp
  | x :: l, b, j => by
    rw [List.foldl_cons, fold_bit c l]
    by_cases hc : c x = true
    · rw [if_pos hc, Nat.testBit_or, Nat.testBit_two_pow, Bool.or_assoc]
      congr 1
      by_cases e : x = j
      · subst e; simp [hc]
      · have e2 : ¬ j = x := fun h => e h.symm
        simp [e, e2]
    · rw [if_neg hc]
      congr 1
      rw [decide_eq_decide, List.mem_cons]
      refine ⟨fun h => ⟨.inr h.1, h.2⟩, fun h => ⟨h.1.elim (fun e => absurd (e ▸ h.2) hc) id, h.2⟩⟩
theorem fold_lt (c : Nat → Bool) {n : Nat} : ∀ (l : List Nat) (b : Nat), (∀ u ∈ l, u < n) → b < 2 ^ n → l.foldl (fun (b u : Nat) => if c u = true then b ||| 2 ^ u else b) b < 2 ^ n
  | [], b, _, hb => hb
  | x :: l, b, h, hb => by
    rw [List.foldl_cons]
    refine fold_lt c l _ (fun u hu => h u (List.mem_cons_of_mem _ hu)) ?_
    split
    · exact or_lt hb (Nat.pow_lt_pow_right (by decide) (h x (List.mem_cons_self ..)))
    · exact hb
/-- may one go on from v, s being behind? -/
def goesOn (a : List Nat) (last s v : Nat) : Bool := decide (0 < wayN a last (sdiff (2 ^ a.length - 1) s) v)
def endF (a : List Nat) (last s : Nat) (l : List Nat) : Nat := l.foldl (fun (b u : Nat) => if goesOn a last s u = true then b ||| 2 ^ u else b) 0
def endE (a : List Nat) (last s : Nat) : Nat := endF a last s (els s)
theorem endE_bit {s v : Nat} (hs : s < 2 ^ 16) : (endE a last s).testBit v = (s.testBit v && goesOn a last s v) := by
  unfold endE endF
  rw [fold_bit, Nat.zero_testBit, Bool.false_or, Bool.eq_iff_iff, decide_eq_true_iff, Bool.and_eq_true, mem_els hs]
theorem endF_lt {s : Nat} {l : List Nat} {n : Nat} (h : ∀ u ∈ l, u < n) : endF a last s l < 2 ^ n := fold_lt _ l 0 h (Nat.two_pow_pos n)
def tbE (a : List Nat) (last i : Nat) : List Nat := (List.range (2 ^ a.length)).map fun s => if i < s then endE a last s else 0
theorem tbE_len (i : Nat) : (tbE a last i).length = 2 ^ a.length := by unfold tbE; simp
theorem tbE_idx {β : Type} {i s : Nat} {q : BitVec 32 → Option β} (h : i < s) (hs : s < 2 ^ a.length) : idx (bvs (tbE a last i)) (s : Int) q = q (BitVec.ofNat 32 (endE a last s)) := by
  rw [idx_bvs (by rw [tbE_len]; exact hs)]
  unfold tbE
  simp only [List.getElem_map, List.getElem_range]
  rw [if_pos h]
/-- a table with the entry i on its way -/
def tbP (a : List Nat) (last i y : Nat) : List Nat := (List.range (2 ^ a.length)).map fun s => if i < s then endE a last s else if s = i then y else 0
theorem tbP_len (i y : Nat) : (tbP a last i y).length = 2 ^ a.length := by unfold tbP; simp
theorem tbP_zero (i : Nat) : tbP a last i 0 = tbE a last i := by
  unfold tbP tbE
  refine List.map_congr_left fun s _ => ?_
  split
  · rfl
  · split <;> rfl
theorem tbP_idx {β : Type} {i s y : Nat} {q : BitVec 32 → Option β} (h : i < s) (hs : s < 2 ^ a.length) : idx (bvs (tbP a last i y)) (s : Int) q = q (BitVec.ofNat 32 (endE a last s)) := by
  rw [idx_bvs (by rw [tbP_len]; exact hs)]
  unfold tbP
  simp only [List.getElem_map, List.getElem_range]
  rw [if_pos h]
theorem tbP_own {β : Type} {i y : Nat} {q : BitVec 32 → Option β} (hs : i < 2 ^ a.length) : idx (bvs (tbP a last i y)) (i : Int) q = q (BitVec.ofNat 32 y) := by
  rw [idx_bvs (by rw [tbP_len]; exact hs)]
  unfold tbP
  simp
theorem tbP_set {i y z : Nat} (hs : i < 2 ^ a.length) : (bvs (tbP a last i y)).set i (BitVec.ofNat 32 z) = bvs (tbP a last i z) := by
  unfold bvs
  rw [← List.map_set]
  congr 1
  unfold tbP
  apply List.ext_getElem
  · simp
  · intro s h1 h2
    rw [List.getElem_set]
    simp only [List.getElem_map, List.getElem_range]
    by_cases e : i = s
    · subst e; rw [if_pos rfl, if_neg (by omega), if_pos rfl]
    · rw [if_neg e]
      by_cases e2 : i < s
      · rw [if_pos e2, if_pos e2]
      · rw [if_neg e2, if_neg e2, if_neg (fun h => e h.symm), if_neg (fun h => e h.symm)]
theorem tbP_done {i : Nat} (h0 : 0 < i) : tbP a last i (endE a last i) = tbE a last (i - 1) := by
  unfold tbP tbE
  refine List.map_congr_left fun s _ => ?_
  by_cases e : i < s
  · rw [if_pos e, if_pos (by omega)]
  · rw [if_neg e]
    by_cases e2 : s = i
    · rw [if_pos e2, if_pos (by omega), e2]
    · rw [if_neg e2, if_neg (by omega)]
theorem left_or {n s u : Nat} : sdiff (2 ^ n - 1) (s ||| 2 ^ u) = sdiff (sdiff (2 ^ n - 1) s) (2 ^ u) := bits_ext fun j => by
  rw [sdiff_bit, sdiff_bit, sdiff_bit, Nat.testBit_or, Bool.not_or, Bool.and_assoc]
theorem left_and {x n s : Nat} (hx : x < 2 ^ n) : x &&& sdiff (2 ^ n - 1) s = sdiff x s := bits_ext fun j => by
  rw [Nat.testBit_and, sdiff_bit, sdiff_bit, full_bit]
  cases e : x.testBit j with
  | false => simp
  | true => rw [decide_eq_true (bit_lt hx e)]; simp
theorem or_gt {s u : Nat} (h : s.testBit u = false) : s < s ||| 2 ^ u := by
  refine Nat.lt_of_le_of_ne Nat.left_le_or fun e => ?_
  have : (s ||| 2 ^ u).testBit u = true := by rw [Nat.testBit_or, Nat.testBit_two_pow]; simp
  rw [← e, h] at this; cases this
/-- a list searched: the first of its kind -/
theorem lp_pick {X : Type} {step : Int → Option (Int ⊕ (Int ⊕ X))} (l : List Nat) (c : Nat → Bool) (d : Int) (h1 : ∀ (k : Nat) (hk : k < l.length), c l[k] = false → step (k : Int) = some (.inl ((k : Int) + 1)))
    (h2 : ∀ (k : Nat) (hk : k < l.length), c l[k] = true → step (k : Int) = some (.inr (.inl (l[k] : Int)))) (h3 : step (l.length : Int) = some (.inr (.inl d))) :
    lp step 0 = some (.inl (match l.find? c with | some u => (u : Int) | none => d)) := by
  have key : ∀ m k, k + m = l.length → lp step (k : Int) = some (.inl (match (l.drop k).find? c with | some u => (u : Int) | none => d)) := by
    intro m
    induction m with
    | zero =>
      intro k hk
      have : k = l.length := by omega
      subst this
      rw [List.drop_length, lp_inr h3]; rfl
    | succ m ih =>
      intro k hk
      have hk' : k < l.length := by omega
      rw [List.drop_eq_getElem_cons hk', List.find?_cons]
      cases e : c l[k] with
      | true => rw [lp_inr (h2 k hk' e)]
      | false => rw [lp_inl (h1 k hk' e)]; exact ih (k + 1) (by omega)
  have := key l.length 0 (by omega)
  rw [List.drop_zero] at this
  exact this
end
end Go.Proofs.YthbmcbflnibpbaaDoor

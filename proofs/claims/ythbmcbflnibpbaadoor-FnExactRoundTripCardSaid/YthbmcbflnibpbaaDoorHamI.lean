/- Ways through a set of vertices, as the program looks for them. -/
import Derived.Test.YthbmcbflnibpbaaDoorHam
namespace Go.Proofs.YthbmcbflnibpbaaDoor
theorem bv_ofInt (n : Nat) : BitVec.ofInt 32 (n : Int) = BitVec.ofNat 32 n := by simp
theorem full_bit {n j : Nat} : (2 ^ n - 1).testBit j = decide (j < n) := Nat.testBit_two_pow_sub_one ..
section
variable {a : List Nat} {last : Nat}
theorem fold_bit (c : Nat → Bool) : ∀ (l : List Nat) (b j : Nat), (l.foldl (fun (b u : Nat) => if c u = true then b ||| 2 ^ u else b) b).testBit j = (b.testBit j || decide (j ∈ l ∧ c j = true))
  | [], b, j => by simp
  | x :: l, b, j => by
    rw [List.foldl_cons, fold_bit c l]
    by_cases hc : c x = true
    · rw [if_pos hc, Nat.testBit_or, Nat.testBit_two_pow, Bool.or_assoc]
      congr 1
      by_cases e : x = j
      · subst e; simp [hc]
      · have e2 : ¬ j = x := fun h => e h.symm
        simp [e, e2]
    · rw [if_neg hc]
      congr 1
      rw [decide_eq_decide, List.mem_cons]
      refine ⟨fun h => ⟨.inr h.1, h.2⟩, fun h => ⟨h.1.elim (fun e => absurd (e ▸ h.2) hc) id, h.2⟩⟩
theorem fold_lt (c : Nat → Bool) {n : Nat} : ∀ (l : List Nat) (b : Nat), (∀ u ∈ l, u < n) → b < 2 ^ n → l.foldl (fun (b u : Nat) => if c u = true then b ||| 2 ^ u else b) b < 2 ^ n
  | [], b, _, hb => hb
  | x :: l, b, h, hb => by
    rw [List.foldl_cons]
    refine fold_lt c l _ (fun u hu => h u (List.mem_cons_of_mem _ hu)) ?_
    split
    · exact or_lt hb (Nat.pow_lt_pow_right (by decide) (h x (List.mem_cons_self ..)))
    · exact hb
/-- may one go on from v, s being behind? -/
def goesOn (a : List Nat) (last s v : Nat) : Bool := decide (0 < wayN a last (sdiff (2 ^ a.length - 1) s) v)
def endF (a : List Nat) (last s : Nat) (l : List Nat) : Nat := l.foldl (fun (b u : Nat) => if goesOn a last s u = true then b ||| 2 ^ u else b) 0
def endE (a : List Nat) (last s : Nat) : Nat := endF a last s (els s)
theorem endE_bit {s v : Nat} (hs : s < 2 ^ 16) : (endE a last s).testBit v = (s.testBit v && goesOn a last s v) := by
  unfold endE endF
  rw [fold_bit, Nat.zero_testBit, Bool.false_or, Bool.eq_iff_iff, decide_eq_true_iff, Bool.and_eq_true, mem_els hs]
theorem endF_lt {s : Nat} {l : List Nat} {n : Nat} (h : ∀ u ∈ l, u < n) : endF a last s l < 2 ^ n := fold_lt _ l 0 h (Nat.two_pow_pos n)
def tbE (a : List Nat) (last i : Nat) : List Nat := (List.range (2 ^ a.length)).map fun s => if i < s then endE a last s else 0
theorem tbE_len (i : Nat) : (tbE a last i).length = 2 ^ a.length := by unfold tbE; simp
theorem tbE_idx {β : Type} {i s : Nat} {q : BitVec 32 → Option β} (h : i < s) (hs : s < 2 ^ a.length) : idx (bvs (tbE a last i)) (s : Int) q = q (BitVec.ofNat 32 (endE a last s)) := by
  rw [idx_bvs (by rw [tbE_len]; exact hs)]
  unfold tbE
  simp only [List.getElem_map, List.getElem_range]
  rw [if_pos h]
/-- a table with the entry i on its way -/
def tbP (a : List Nat) (last i y : Nat) : List Nat := (List.range (2 ^ a.length)).map fun s => if i < s then endE a last s else if s = i then y else 0
theorem tbP_len (i y : Nat) : (tbP a last i y).length = 2 ^ a.length := by unfold tbP; simp
theorem tbP_zero (i : Nat) : tbP a last i 0 = tbE a last i := by
  unfold tbP tbE
  refine List.map_congr_left fun s _ => ?_
  split
  · rfl
  · split <;> rfl
theorem tbP_idx {β : Type} {i s y : Nat} {q : BitVec 32 → Option β} (h : i < s) (hs : s < 2 ^ a.length) : idx (bvs (tbP a last i y)) (s : Int) q = q (BitVec.ofNat 32 (endE a last s)) := by
  rw [idx_bvs (by rw [tbP_len]; exact hs)]
  unfold tbP
  simp only [List.getElem_map, List.getElem_range]
  rw [if_pos h]
theorem tbP_own {β : Type} {i y : Nat} {q : BitVec 32 → Option β} (hs : i < 2 ^ a.length) : idx (bvs (tbP a last i y)) (i : Int) q = q (BitVec.ofNat 32 y) := by
  rw [idx_bvs (by rw [tbP_len]; exact hs)]
  unfold tbP
  simp
theorem tbP_set {i y z : Nat} (hs : i < 2 ^ a.length) : (bvs (tbP a last i y)).set i (BitVec.ofNat 32 z) = bvs (tbP a last i z) := by
  unfold bvs
  rw [← List.map_set]
  congr 1
  unfold tbP
  apply List.ext_getElem
  · simp
  · intro s h1 h2
    rw [List.getElem_set]
    simp only [List.getElem_map, List.getElem_range]
    by_cases e : i = s
    · subst e; rw [if_pos rfl, if_neg (by omega), if_pos rfl]
    · rw [if_neg e]
      by_cases e2 : i < s
      · rw [if_pos e2, if_pos e2]
      · rw [if_neg e2, if_neg e2, if_neg (fun h => e h.symm), if_neg (fun h => e h.symm)]
theorem tbP_done {i : Nat} (h0 : 0 < i) : tbP a last i (endE a last i) = tbE a last (i - 1) := by
  unfold tbP tbE
  refine List.map_congr_left fun s _ => ?_
  by_cases e : i < s
  · rw [if_pos e, if_pos (by omega)]
  · rw [if_neg e]
    by_cases e2 : s = i
    · rw [if_pos e2, if_pos (by omega), e2]
    · rw [if_neg e2, if_neg (by omega)]
theorem left_or {n s u : Nat} : sdiff (2 ^ n - 1) (s ||| 2 ^ u) = sdiff (sdiff (2 ^ n - 1) s) (2 ^ u) := bits_ext fun j => by
  rw [sdiff_bit, sdiff_bit, sdiff_bit, Nat.testBit_or, Bool.not_or, Bool.and_assoc]
theorem left_and {x n s : Nat} (hx : x < 2 ^ n) : x &&& sdiff (2 ^ n - 1) s = sdiff x s := bits_ext fun j => by
  rw [Nat.testBit_and, sdiff_bit, sdiff_bit, full_bit]
  cases e : x.testBit j with
  | false => simp
  | true => rw [decide_eq_true (bit_lt hx e)]; simp
theorem or_gt {s u : Nat} (h : s.testBit u = false) : s < s ||| 2 ^ u := by
  refine Nat.lt_of_le_of_ne Nat.left_le_or fun e => ?_
  have : (s ||| 2 ^ u).testBit u = true := by rw [Nat.testBit_or, Nat.testBit_two_pow]; simp
  rw [← e, h] at this; cases this
/-- a list searched: the first of its kind -/
theorem lp_pick {X : Type} {step : Int → Option (Int ⊕ (Int ⊕ X))} (l : List Nat) (c : Nat → Bool) (d : Int) (h1 : ∀ (k : Nat) (hk : k < l.length), c l[k] = false → step (k : Int) = some (.inl ((k : Int) + 1)))
    (h2 : ∀ (k : Nat) (hk : k < l.length), c l[k] = true → step (k : Int) = some (.inr (.inl (l[k] : Int)))) (h3 : step (l.length : Int) = some (.inr (.inl d))) :
    lp step 0 = some (.inl (match l.find? c with | some u => (u : Int) | none => d)) := by
  have key : ∀ m k, k + m = l.length → lp step (k : Int) = some (.inl (match (l.drop k).find? c with | some u => (u : Int) | none => d)) := by
    intro m
    induction m with
    | zero =>
      intro k hk
      have : k = l.length := by omega
      subst this
      rw [List.drop_length, lp_inr h3]; rfl
    | succ m ih =>
      intro k hk
      have hk' : k < l.length := by omega
      rw [List.drop_eq_getElem_cons hk', List.find?_cons]
      cases e : c l[k] with
      | true => rw [lp_inr (h2 k hk' e)]
      | false => rw [lp_inl (h1 k hk' e)]; exact ih (k + 1) (by omega)
  have := key l.length 0 (by omega)
  rw [List.drop_zero] at this
  exact this
theorem endings_eq (ha : a.length ≤ 16) (hb : ∀ v (h : v < a.length), a[v] < 2 ^ a.length) (h1n : 1 ≤ a.length) (hl : last < 2 ^ a.length) : F_impl_endings (bvs a) (BitVec.ofNat 32 last) = some (bvs (tbE a last 0)) := by
  have hp := pow16 ha
  have hp0 : 2 ≤ 2 ^ a.length := Nat.le_trans (by decide) (Nat.pow_le_pow_right (show 0 < 2 by decide) h1n)
  have hall : endE a last (2 ^ a.length - 1) = last := bits_ext fun v => by
    have hz : sdiff (2 ^ a.length - 1) (2 ^ a.length - 1) = 0 := bits_ext fun j => by rw [sdiff_bit, Nat.zero_testBit]; cases (2 ^ a.length - 1).testBit j <;> rfl
    rw [endE_bit (by omega), full_bit]
    unfold goesOn
    rw [hz, wayN_zero]
    cases e : last.testBit v with
    | false => simp
    | true => simp [bit_lt hl e]
  have init : (List.replicate (2 ^ a.length) (0 : BitVec 32)).set (2 ^ a.length - 1) (BitVec.ofNat 32 last) = bvs (tbE a last (2 ^ a.length - 1 - 1)) := by
    unfold bvs tbE
    apply List.ext_getElem
    · simp
    · intro s h1 h2
      simp only [List.length_set, List.length_replicate] at h1
      rw [List.getElem_set]
      simp only [List.getElem_replicate, List.getElem_map, List.getElem_range]
      by_cases e : 2 ^ a.length - 1 = s
      · subst e; rw [if_pos rfl, if_pos (by omega), hall]
      · rw [if_neg e, if_neg (by omega)]; rfl
  have key : lp (fun s => F_impl_endings_l1 (bvs a) s.1 s.2) (bvs (tbE a last (2 ^ a.length - 1 - 1)), ((2 ^ a.length - 1 - 1 : Nat) : Int)) = some (.inl (bvs (tbE a last 0))) := by
    refine lp_upto (fun j => (bvs (tbE a last (2 ^ a.length - 1 - 1 - j)), ((2 ^ a.length - 1 - 1 - j : Nat) : Int))) (2 ^ a.length - 1 - 1) rfl (fun j hj => ?_) ?_
    · obtain ⟨i, hi⟩ : ∃ i, i = 2 ^ a.length - 1 - 1 - j := ⟨_, rfl⟩
      have hi2 : 2 ^ a.length - 1 - 1 - (j + 1) = i - 1 := by omega
      have hi0 : 0 < i := by omega
      have hin : i < 2 ^ a.length - 1 := by omega
      rw [hi2, ← hi]
      simp only [F_impl_endings_l1]
      have hlen := els_len_le i
      have mid : lp (fun s => F_impl_endings_l2 (bvs a) (i : Int) (ints (els i)) s.1 s.2) (bvs (tbP a last i 0), 0) = some (.inl (bvs (tbP a last i (endE a last i)))) := by
        refine lp_upto (fun k => (bvs (tbP a last i (endF a last i ((els i).take k))), (k : Int))) (els i).length rfl (fun k hk => ?_) ?_
        · simp only [F_impl_endings_l2]
          have hv := els_bit (List.getElem_mem hk)
          obtain ⟨v, hvv⟩ : ∃ v, v = (els i)[k] := ⟨_, rfl⟩
          rw [← hvv] at hv
          have hvn : v < a.length := bit_lt (show i < 2 ^ a.length by omega) hv
          have hav := hb v hvn
          have hEl : endF a last i ((els i).take k) < 2 ^ a.length := endF_lt fun u hu => bit_lt (show i < 2 ^ a.length by omega) (els_bit (List.mem_of_mem_take hu))
          have hr0 : sdiff (2 ^ a.length - 1) i ≠ 0 := fun e => by
            have h1 : SubB (2 ^ a.length - 1) i := sdiff_zero.1 e
            have := h1.le
            omega
          have hrl := sdiff_le (2 ^ a.length - 1) i
          have hgo : goesOn a last i v = (els (sdiff a[v] i)).any fun u => goesOn a last (i ||| 2 ^ u) u := by
            rw [Bool.eq_iff_iff, List.any_eq_true]
            unfold goesOn
            rw [decide_eq_true_iff, wayN_pos hr0 (by omega), getD_get hvn, left_and hav]
            simp only [decide_eq_true_iff, left_or]
          have hnext : endF a last i ((els i).take (k + 1)) = if goesOn a last i v = true then endF a last i ((els i).take k) ||| 2 ^ v else endF a last i ((els i).take k) := by
            unfold endF
            rw [take_succ_of hk, List.foldl_append, ← hvv]; rfl
          have hsd := sdiff_le a[v] i
          have inner : lp (fun s => F_impl_endings_l3 (i : Int) (bvs (tbP a last i (endF a last i ((els i).take k)))) (v : Int) (ints (els (sdiff a[v] i))) s) 0 = some (.inl (bvs (tbP a last i (endF a last i ((els i).take (k + 1)))))) := by
            have hat : ∀ q (hq : q < (els (sdiff a[v] i)).length), ∃ u, u = (els (sdiff a[v] i))[q] ∧ u < a.length ∧ i < (i ||| 2 ^ u) ∧ (i ||| 2 ^ u) < 2 ^ a.length ∧ (endE a last (i ||| 2 ^ u)).testBit u = goesOn a last (i ||| 2 ^ u) u := by
              intro q hq
              have hu := els_bit (List.getElem_mem hq)
              rw [sdiff_bit, Bool.and_eq_true, Bool.not_eq_true'] at hu
              have hun : (els (sdiff a[v] i))[q] < a.length := bit_lt hav hu.1
              have hol : (i ||| 2 ^ (els (sdiff a[v] i))[q]) < 2 ^ a.length := or_lt (by omega) (Nat.pow_lt_pow_right (by decide) hun)
              refine ⟨_, rfl, hun, or_gt hu.2, hol, ?_⟩
              rw [endE_bit (by omega), Nat.testBit_or, Nat.testBit_two_pow]; simp
            have hstep : ∀ q (hq : q < (els (sdiff a[v] i)).length), ∀ u, u = (els (sdiff a[v] i))[q] → F_impl_endings_l3 (i : Int) (bvs (tbP a last i (endF a last i ((els i).take k)))) (v : Int) (ints (els (sdiff a[v] i))) (q : Int) =
                if goesOn a last (i ||| 2 ^ u) u = true then some (.inr (.inl (bvs (tbP a last i (endF a last i ((els i).take k) ||| 2 ^ v))))) else some (.inl ((q : Int) + 1)) := by
              intro q hq u hu
              obtain ⟨u', e, h1, h2, h3, h4⟩ := hat q hq
              have e' : u' = u := by rw [e, hu]
              subst e'
              have hEE : endE a last (i ||| 2 ^ u') < 2 ^ a.length := by unfold endE; exact endF_lt fun x hx => bit_lt h3 (els_bit hx)
              have hql := els_len_le (sdiff a[v] i)
              simp only [F_impl_endings_l3]
              rw [ints_len, if_pos (by omega), idx_ints hq, ← e, cal_of (one_eq (by omega)), bv_ofInt, bv_or, bv_toNat (by omega), tbP_idx h2 h3, cal_of (has_eq (by omega) (by omega)), h4]
              by_cases hg : goesOn a last (i ||| 2 ^ u') u' = true
              · rw [if_pos hg, if_pos hg, tbP_own (by omega), cal_of (one_eq (by omega)), tbP_own (by omega), Int.toNat_natCast, bv_or, tbP_set (by omega)]
              · rw [if_neg hg, if_neg hg, ck_of (inI (by omega) (by omega))]
            rw [hnext, hgo]
            have hlast : F_impl_endings_l3 (i : Int) (bvs (tbP a last i (endF a last i ((els i).take k)))) (v : Int) (ints (els (sdiff a[v] i))) ((els (sdiff a[v] i)).length : Int) = some (.inr (.inl (bvs (tbP a last i (endF a last i ((els i).take k)))))) := by
              simp only [F_impl_endings_l3]
              rw [ints_len, if_neg (by omega)]
            have walk : ∀ m q, q + m = (els (sdiff a[v] i)).length → lp (fun s => F_impl_endings_l3 (i : Int) (bvs (tbP a last i (endF a last i ((els i).take k)))) (v : Int) (ints (els (sdiff a[v] i))) s) (q : Int) = some (.inl (bvs (tbP a last i (if (((els (sdiff a[v] i)).drop q).any fun u => goesOn a last (i ||| 2 ^ u) u) = true then endF a last i ((els i).take k) ||| 2 ^ v else endF a last i ((els i).take k))))) := by
              intro m
              induction m with
              | zero =>
                intro q hq
                have : q = (els (sdiff a[v] i)).length := by omega
                subst this
                rw [List.drop_length, lp_inr hlast]; rfl
              | succ m ih =>
                intro q hq
                have hq' : q < (els (sdiff a[v] i)).length := by omega
                have h5 := hstep q hq' _ rfl
                rw [List.drop_eq_getElem_cons hq', List.any_cons]
                by_cases hg : goesOn a last (i ||| 2 ^ (els (sdiff a[v] i))[q]) (els (sdiff a[v] i))[q] = true
                · rw [if_pos hg] at h5
                  rw [lp_inr h5, hg, Bool.true_or, if_pos rfl]
                · rw [if_neg hg] at h5
                  have hg' : goesOn a last (i ||| 2 ^ (els (sdiff a[v] i))[q]) (els (sdiff a[v] i))[q] = false := by simpa using hg
                  rw [lp_inl h5, hg', Bool.false_or]; exact ih (q + 1) (by omega)
            have := walk (els (sdiff a[v] i)).length 0 (by omega)
            rw [List.drop_zero] at this
            exact this
          rw [ints_len, if_pos (by omega), idx_ints hk, ← hvv, idx_bvs hvn, bv_ofInt, bv_andn (by omega), cal_of (list_eq (by omega)), bnd_l inner]
          unfold F_impl_endings_k4
          rw [ck_of (inI (by omega) (by omega))]; rfl
        · simp only [F_impl_endings_l2]
          rw [ints_len, if_neg (by omega), List.take_length]; rfl
      rw [if_pos (by omega), bv_ofInt, cal_of (list_eq (by omega)), ← tbP_zero, bnd_l mid]
      unfold F_impl_endings_k5
      rw [ck_of (inI (by omega) (by omega)), tbP_done hi0]
      exact inl_eq (pair_eq rfl (by omega))
    · simp only [F_impl_endings_l1]
      rw [Nat.sub_self, if_neg (by decide)]
  unfold F_impl_endings
  rw [cal_of (all_eq ha), bv_succ, Nat.sub_add_cancel (by omega), bv_toNat (by omega), bv_toNat (by omega), mkS_of (by omega) (by unfold lim; omega), Int.toNat_natCast, idx_nat (by rw [List.length_replicate]; omega), ck_of (inI (by omega) (by omega)), Int.toNat_natCast, init, show ((2 ^ a.length - 1 : Nat) : Int) - 1 = ((2 ^ a.length - 1 - 1 : Nat) : Int) by omega, bnd_l key]; rfl
theorem tripFrom_eq (ha : a.length ≤ 16) (hb : ∀ v (h : v < a.length), a[v] < 2 ^ a.length) {v : Nat} (hv : v < a.length) :
    F_impl_tripFrom (bvs a) (v : Int) (bvs (tbE a last 0)) = some (if 0 < wayN a last (sdiff (2 ^ a.length - 1) (2 ^ v)) v then ints (v :: wayL a last (sdiff (2 ^ a.length - 1) (2 ^ v)) v) else []) := by
  have hp := pow16 ha
  have hp0 : 0 < 2 ^ a.length := Nat.two_pow_pos _
  have h2v : 2 ^ v < 2 ^ a.length := Nat.pow_lt_pow_right (by decide) hv
  have h2p : 0 < 2 ^ v := Nat.two_pow_pos v
  have hEl : ∀ s, s < 2 ^ a.length → endE a last s < 2 ^ a.length := fun s hs => by unfold endE; exact endF_lt fun x hx => bit_lt hs (els_bit hx)
  have key : ∀ k (s v : Nat) (acc : List Nat), s < 2 ^ a.length → v < a.length → card (sdiff (2 ^ a.length - 1) s) = k → acc.length + k ≤ 40 → 0 < wayN a last (sdiff (2 ^ a.length - 1) s) v →
      lp (fun q => F_impl_tripFrom_l1 (bvs a) (bvs (tbE a last 0)) q.1 q.2.1 q.2.2) ((v : Int), BitVec.ofNat 32 s, ints acc) = some (.inl (ints (acc ++ wayL a last (sdiff (2 ^ a.length - 1) s) v))) := by
    intro k
    induction k with
    | zero =>
      intro s v acc hs hv hk hacc hpos
      have hr := sdiff_le (2 ^ a.length - 1) s
      have hz : sdiff (2 ^ a.length - 1) s = 0 := Classical.byContradiction fun h => by have := card_pos h (by omega); omega
      have hse : s = 2 ^ a.length - 1 := by have := (sdiff_zero.1 hz).le; omega
      refine lp_inr ?_
      simp only [F_impl_tripFrom_l1]
      rw [cal_of (all_eq ha), if_neg (by rw [hse]; exact fun h => h rfl), hz, wayL_zero, List.append_nil]
    | succ k ih =>
      intro s v acc hs hv hk hacc hpos
      have hr := sdiff_le (2 ^ a.length - 1) s
      have hz : sdiff (2 ^ a.length - 1) s ≠ 0 := fun e => by rw [e, card_zero] at hk; omega
      have hav := hb v hv
      have hne : s ≠ 2 ^ a.length - 1 := fun e => hz (by rw [e]; exact sdiff_zero.2 (SubB.refl _))
      obtain ⟨u, hf, hu1, hu2, hu3⟩ := way_first hz (by omega) hpos
      rw [getD_get hv] at hf hu1
      have hcd := card_del hu2 (by omega)
      have hun : u < a.length := bit_lt hav hu1
      have hsd := sdiff_le a[v] s
      have hol : s ||| 2 ^ u < 2 ^ a.length := or_lt hs (Nat.pow_lt_pow_right (by decide) hun)
      have pick := lp_pick (X := (Int × (BitVec 32) × (List Int)) ⊕ ((List Int) ⊕ (List Int))) (step := fun q => F_impl_tripFrom_l2 (bvs (tbE a last 0)) (v : Int) (BitVec.ofNat 32 s) (ints (els (sdiff a[v] s))) q) (els (sdiff a[v] s)) (fun u => decide (0 < wayN a last (sdiff (sdiff (2 ^ a.length - 1) s) (2 ^ u)) u)) (v : Int) ?_ ?_ ?_
      · have hfind := hf
        rw [left_and hav] at hfind
        rw [hfind] at pick
        dsimp only at pick
        have hstep : F_impl_tripFrom_l1 (bvs a) (bvs (tbE a last 0)) (v : Int) (BitVec.ofNat 32 s) (ints acc) = some (.inl ((u : Int), BitVec.ofNat 32 (s ||| 2 ^ u), ints (acc ++ [u]))) := by
          simp only [F_impl_tripFrom_l1]
          rw [cal_of (all_eq ha), if_pos (by rw [Ne, bv_inj (by omega) (by omega)]; exact hne), idx_bvs hv, bv_andn (by omega), cal_of (list_eq (by omega)), bnd_l pick]
          unfold F_impl_tripFrom_k3
          rw [cal_of (one_eq (by omega)), app1_s (by rw [ints_len]; omega), bv_or, ints_snoc]
        rw [lp_inl hstep, ih (s ||| 2 ^ u) u (acc ++ [u]) hol hun (by rw [left_or]; omega) (by rw [List.length_append, List.length_singleton]; omega) (by rw [left_or]; exact hu3), left_or, wayL_step hz (by omega) (by rw [getD_get hv]; exact hf), List.append_assoc]; rfl
      · intro q hq hc
        have hw := els_bit (List.getElem_mem hq)
        rw [sdiff_bit, Bool.and_eq_true, Bool.not_eq_true'] at hw
        have hwn : (els (sdiff a[v] s))[q] < a.length := bit_lt hav hw.1
        have hwl : s ||| 2 ^ (els (sdiff a[v] s))[q] < 2 ^ a.length := or_lt hs (Nat.pow_lt_pow_right (by decide) hwn)
        have hE := hEl _ hwl
        have hql := els_len_le (sdiff a[v] s)
        have hgt := or_gt hw.2
        simp only [F_impl_tripFrom_l2]
        rw [ints_len, if_pos (by omega), idx_ints hq, cal_of (one_eq (by omega)), bv_or, bv_toNat (by omega), tbE_idx (by omega) hwl, cal_of (has_eq (by omega) (by omega)), endE_bit (by omega)]
        have hg : goesOn a last (s ||| 2 ^ (els (sdiff a[v] s))[q]) (els (sdiff a[v] s))[q] = false := by unfold goesOn; rw [left_or]; exact hc
        rw [hg, Bool.and_false, if_neg (by decide), ck_of (inI (by omega) (by omega))]
      · intro q hq hc
        have hw := els_bit (List.getElem_mem hq)
        rw [sdiff_bit, Bool.and_eq_true, Bool.not_eq_true'] at hw
        have hwn : (els (sdiff a[v] s))[q] < a.length := bit_lt hav hw.1
        have hwl : s ||| 2 ^ (els (sdiff a[v] s))[q] < 2 ^ a.length := or_lt hs (Nat.pow_lt_pow_right (by decide) hwn)
        have hE := hEl _ hwl
        have hgt := or_gt hw.2
        simp only [F_impl_tripFrom_l2]
        rw [ints_len, if_pos (by omega), idx_ints hq, cal_of (one_eq (by omega)), bv_or, bv_toNat (by omega), tbE_idx (by omega) hwl, cal_of (has_eq (by omega) (by omega)), endE_bit (by omega), Nat.testBit_or, Nat.testBit_two_pow]
        have hg : goesOn a last (s ||| 2 ^ (els (sdiff a[v] s))[q]) (els (sdiff a[v] s))[q] = true := by unfold goesOn; rw [left_or]; exact hc
        rw [hg, if_pos (by simp)]
      · simp only [F_impl_tripFrom_l2]
        rw [ints_len, if_neg (by omega)]
  unfold F_impl_tripFrom
  have hE := hEl _ h2v
  rw [cal_of (one_eq (by omega)), bv_toNat (by omega), tbE_idx h2p h2v, cal_of (has_eq (by omega) (by omega)), endE_bit (by omega)]
  have hself : (2 ^ v).testBit v = true := by rw [Nat.testBit_two_pow]; simp
  rw [hself, Bool.true_and]
  unfold goesOn
  by_cases h : 0 < wayN a last (sdiff (2 ^ a.length - 1) (2 ^ v)) v
  · rw [if_pos h, if_neg (by rw [decide_eq_true_iff]; exact fun k => k h)]
    have := key _ (2 ^ v) v [v] h2v hv rfl (by have := card_le16 (sdiff (2 ^ a.length - 1) (2 ^ v)); rw [List.length_singleton]; omega) h
    rw [show ints [v] = [(v : Int)] from rfl] at this
    rw [bnd_l this]
    unfold F_impl_tripFrom_k4
    rw [grd_of (by simp [ints])]; rfl
  · rw [if_neg h, if_pos (by rw [decide_eq_true_iff]; exact h)]
theorem wide_id (l : List Int) (h : l.length ≤ 1048576) : F_impl_wide l = some l := by
  unfold F_impl_wide
  have key : lp (fun s => F_impl_wide_l1 l s.1 s.2) (([] : List Int), 0) = some (.inl l) := by
    have := lp_map (step := fun s => F_impl_wide_l1 l s.1 s.2) l id (o := .inl l) (fun k hk t ht => by
      simp only [F_impl_wide_l1]
      rw [if_pos (by omega), idx_nat hk, app1_s (by omega), ck_of (inI (by omega) (by omega))]; rfl) (by
      simp only [F_impl_wide_l1]
      rw [if_neg (by omega), List.map_id])
    exact this
  rw [grd_of ⟨by omega, by unfold lim; omega⟩, bnd_l key]; rfl
end
end Go.Proofs.YthbmcbflnibpbaaDoor

/- How many matchings there are: the reference's table. -/
import Derived.Test.YtgikmgceiiahpabDoorTab
namespace Go.Proofs.YtgikmgceiiahpabDoor
theorem low_pow_le {n : Nat} (h : n ≠ 0) : 2 ^ low n ≤ n := by
  obtain ⟨m, e⟩ := low_spec h
  have hp : 0 < 2 ^ low n := Nat.two_pow_pos _
  have : 2 ^ low n * 1 ≤ 2 ^ low n * (2 * m + 1) := Nat.mul_le_mul_left _ (by omega)
  omega
theorem i64_lowbit {n : Nat} (h : n ≠ 0) (hn : n < 2 ^ 62) : i64and (n : Int) (0 - (n : Int)) = ((2 ^ low n : Nat) : Int) := by
  have hle := low_pow_le h
  have hl := low_lt h hn
  obtain ⟨m, e⟩ := low_spec h
  have e0 : BitVec.ofInt 64 (0 - (n : Int)) = -BitVec.ofNat 64 n := by
    apply BitVec.eq_of_toNat_eq
    rw [BitVec.toNat_ofInt, BitVec.toNat_neg, BitVec.toNat_ofNat, Nat.mod_eq_of_lt (show n < 2 ^ 64 by omega)]
    omega
  have key : (BitVec.ofInt 64 (n : Int) &&& BitVec.ofInt 64 (0 - (n : Int))).toNat = 2 ^ low n := by
    apply bits_ext
    intro j
    rw [e0, BitVec.ofInt_natCast, BitVec.toNat_and, BitVec.toNat_neg, BitVec.toNat_ofNat, Nat.mod_eq_of_lt (show n < 2 ^ 64 by omega), Nat.testBit_and, Nat.testBit_two_pow, Nat.mod_eq_of_lt (by omega)]
    have e1 : 2 ^ 64 - n = 2 ^ 64 - ((n - 1) + 1) := by omega
    rw [e1, Nat.testBit_two_pow_sub_succ (by omega)]
    have e2 : n.testBit j = (2 ^ low n * (2 * m + 1)).testBit j := by rw [← e]
    have e3 : (n - 1).testBit j = (2 ^ low n * (2 * m + 1) - 1).testBit j := by rw [← e]
    rw [e2, e3, testBit_odd, testBit_pred]
    rcases Nat.lt_trichotomy j (low n) with g | g | g
    · simp [g, show ¬ j = low n by omega, show ¬ low n = j by omega, show ¬ low n < j by omega]
    · simp [g, show low n < 64 by omega]
    · simp [show ¬ j = low n by omega, show ¬ low n = j by omega, show ¬ j < low n by omega, g]
      exact fun h _ => h
  unfold i64and
  rw [BitVec.toInt_eq_toNat_of_lt (by rw [key]; omega), key]
theorem i64_rest {n : Nat} (h : n ≠ 0) (hn : n < 2 ^ 62) : i64and (n : Int) ((n : Int) - 1) = ((sdiff n (2 ^ low n) : Nat) : Int) := by
  rw [show (n : Int) - 1 = ((n - 1 : Nat) : Int) by omega, i64and_nat (by omega) (by omega), rest_eq h]
theorem l27Low_eq {n : Nat} (h : n ≠ 0) (hn : n < 2 ^ 62) : F_spec_l27Low (n : Int) = some (low n : Int) := by
  have hl := low_lt h hn
  unfold F_spec_l27Low
  have key : lp (fun s => F_spec_l27Low_l1 (n : Int) s) 0 = some (.inl (low n : Int)) := by
    refine lp_upto (fun k => (k : Int)) (low n) rfl (fun k hk => ?_) ?_
    · simp only [F_spec_l27Low_l1]
      rw [grd_of (Int.natCast_nonneg _), Int.toNat_natCast, bit_asked (by omega), low_least h hk, if_pos (by simp), ck_of (inI (by omega) (by omega))]; rfl
    · simp only [F_spec_l27Low_l1]
      rw [grd_of (Int.natCast_nonneg _), Int.toNat_natCast, bit_asked (by omega), low_bit h, if_neg (by simp)]
  rw [bnd_l key]; rfl
/-- how a set's count comes of those of smaller ones -/
def ofC (p : Bool) (w : Int) (l : List Int) : Int := (if p = true then 0 else w) + l.sum
theorem sum_nonneg : ∀ {l : List Int}, (∀ x ∈ l, 0 ≤ x) → 0 ≤ l.sum
  | [], _ => by simp
  | x :: l, h => by
    rw [List.sum_cons]
    have := h x (List.mem_cons_self ..)
    have := sum_nonneg (l := l) (fun y hy => h y (List.mem_cons_of_mem _ hy))
    omega
theorem ofC_ok (p : Bool) (w : Int) (l : List Int) (h0 : 0 ≤ w) (hl : ∀ x ∈ l, 0 ≤ x) : 0 ≤ ofC p w l ∧ ofC p w l ≤ w + l.sum := by
  have := sum_nonneg hl
  unfold ofC; split <;> omega
theorem idx_set_ne {β : Type} {l : List Int} {s j : Nat} {x y : Int} {f : Int → Option β} (h : s ≠ j) (hx : l[j]? = some y) : idx (l.set s x) (j : Int) f = f y :=
  idx_of (Int.natCast_nonneg _) (by rw [Int.toNat_natCast, List.getElem?_set_ne h]; exact hx)
theorem idx_set_eq {β : Type} {l : List Int} {s : Nat} {x : Int} {f : Int → Option β} (h : s < l.length) : idx (l.set s x) (s : Int) f = f x :=
  idx_of (Int.natCast_nonneg _) (by rw [Int.toNat_natCast, List.getElem?_set_self h])
theorem l27Count_inner (a : List Nat) (T : Nat → Int) {s N : Nat} (h : s ≠ 0) (hs : s < N) (hN : N ≤ 2 ^ 16) (hT : ∀ t, t < 2 ^ 16 → 0 ≤ T t ∧ T t ≤ 20922789888000) :
    ∀ (near : Nat), near < 2 ^ 16 → (∀ j, near.testBit j = true → (sdiff s (2 ^ low s)).testBit j = true) → ∀ x : Int, 0 ≤ x → x ≤ 400000000000000 - 20922789888000 * (card near : Int) →
      lp (fun s' => F_spec_l27Count_l3 (s : Int) s'.1 s'.2) ((tbl T s N).set s x, (near : Int)) = some (.inl ((tbl T s N).set s (x + ((els near).map fun u => T (sdiff (sdiff s (2 ^ low s)) (2 ^ u))).sum))) := by
  intro near
  have hlen := tbl_len (T := T) (Nat.le_of_lt hs)
  induction near using Nat.strongRecOn with
  | _ near ih =>
    intro hn hsub x hx0 hx
    rw [lp_unfold]
    by_cases h0 : near = 0
    · subst h0
      simp only [F_spec_l27Count_l3]
      rw [if_neg (by decide), els_zero]; simp
    · have hr := less_rest h0
      have hc := card_rest h0 hn
      have hv := hsub _ (low_bit h0)
      have hrs := less_rest h
      have hd : sdiff (sdiff s (2 ^ low s)) (2 ^ low near) < s := Nat.lt_of_le_of_lt (sdiff_le _ _) hrs
      have hT1 := hT (sdiff (sdiff s (2 ^ low s)) (2 ^ low near)) (by omega)
      have hp := low_pow_le h0
      have hst : F_spec_l27Count_l3 (s : Int) ((tbl T s N).set s x) (near : Int) = some (.inl ((tbl T s N).set s (x + T (sdiff (sdiff s (2 ^ low s)) (2 ^ low near))), ((sdiff near (2 ^ low near) : Nat) : Int))) := by
        unfold F_spec_l27Count_l3
        rw [if_pos (by omega), idx_set_eq (by omega), ck_of (inI (by omega) (by omega)), i64_rest h (by omega), i64_lowbit h0 (by omega), i64andn_nat (by omega) (by omega), idx_set_ne (by omega) (tbl_at hd), ck_of (inI (by omega) (by omega)),
          idx_set_eq (by omega), ck_of (inI (by omega) (by omega)), i64_rest h0 (by omega), Int.toNat_natCast, List.set_set]
      simp only [hst]
      rw [ih _ hr (by omega) (fun j hj => hsub j (by rw [sdiff_bit, Bool.and_eq_true] at hj; exact hj.1)) _ (by omega) (by omega), els_cons h0 hn, rest_eq h0, List.map_cons, List.sum_cons]
      congr 3; omega
theorem l27Count_eq {a : List Nat} (ha : a.length ≤ 16) (hb : ∀ v (h : v < a.length), a[v] < 2 ^ 16) (p : Bool) : F_spec_l27Count (ints a) p = some (tabv a 1 (ofC p) (2 ^ a.length - 1)) := by
  have hp : 2 ^ a.length ≤ 2 ^ 16 := pow16 ha
  have hp0 : 0 < 2 ^ a.length := Nat.two_pow_pos _
  have hT : ∀ t, t < 2 ^ 16 → 0 ≤ tabv a 1 (ofC p) t ∧ tabv a 1 (ofC p) t ≤ 20922789888000 := fun t ht => tabv_small a (ofC p) (ofC_ok p) ht
  unfold F_spec_l27Count
  rw [ints_len, grd_of (Int.natCast_nonneg _), Int.toNat_natCast, two_pow_nat, ck_of (inI_nat (by omega)), mkS_of (Int.natCast_nonneg _) (Int.ofNat_le.2 (by unfold lim; omega)), Int.toNat_natCast,
    idx_of (x := 0) (by decide) (by rw [show (0 : Int).toNat = 0 from rfl, List.getElem?_replicate, if_pos hp0])]
  have hinit : (List.replicate (2 ^ a.length) (0 : Int)).set (0 : Int).toNat 1 = tbl (tabv a 1 (ofC p)) 1 (2 ^ a.length) := by
    have := tbl_set (T := tabv a 1 (ofC p)) hp0 (tabv_zero a 1 (ofC p)).symm
    simpa [tbl] using this
  rw [hinit]
  have key : lp (fun s => F_spec_l27Count_l1 (ints a) p s.1 s.2) (tbl (tabv a 1 (ofC p)) 1 (2 ^ a.length), 1) = some (.inl (tbl (tabv a 1 (ofC p)) (2 ^ a.length) (2 ^ a.length))) := by
    refine lp_upto (fun k => (tbl (tabv a 1 (ofC p)) (k + 1) (2 ^ a.length), ((k + 1 : Nat) : Int))) (2 ^ a.length - 1) rfl (fun k hk => ?_) ?_
    · have hs : k + 1 < 2 ^ a.length := by omega
      have hs0 : k + 1 ≠ 0 := by omega
      generalize k + 1 = s at *
      have hlen := tbl_len (T := tabv a 1 (ofC p)) (Nat.le_of_lt hs)
      have hv : low s < a.length := low_lt hs0 hs
      have hr := less_rest hs0
      have hbv := hb _ hv
      have hg := getD_get hv
      have hlt : a[low s] &&& sdiff s (2 ^ low s) < 2 ^ 16 := and_lt hbv
      have hbr := hT (sdiff s (2 ^ low s)) (by omega)
      have hc16 := els_len_le (a[low s] &&& sdiff s (2 ^ low s))
      have htab := tabv_step a 1 (ofC p) hs0
      simp only [F_spec_l27Count_l1]
      rw [if_pos (by omega), l27Low_eq hs0 (by omega), cal_some_eq, ck_of (inI (by omega) (by omega)), i64_rest hs0 (by omega)]
      have hfirst : (if ¬ p = true then idx (tbl (tabv a 1 (ofC p)) s (2 ^ a.length)) ((sdiff s (2 ^ low s) : Nat) : Int) (fun x757 => idx (tbl (tabv a 1 (ofC p)) s (2 ^ a.length)) (s : Int) (fun x769 => some (.inl ((tbl (tabv a 1 (ofC p)) s (2 ^ a.length)).set ((s : Int).toNat) x757)))) else some (.inl (tbl (tabv a 1 (ofC p)) s (2 ^ a.length)))) =
          (some (.inl ((tbl (tabv a 1 (ofC p)) s (2 ^ a.length)).set s (if p = true then 0 else tabv a 1 (ofC p) (sdiff s (2 ^ low s))))) : Option (List Int ⊕ ((List Int × Int) ⊕ (List Int ⊕ Int)))) := by
        cases p with
        | false =>
          rw [if_pos (by simp), idx_tbl hr, idx_of (Int.natCast_nonneg _) (by rw [Int.toNat_natCast]; exact tbl_zero (Nat.le_refl _) hs), Int.toNat_natCast]; rfl
        | true =>
          rw [if_neg (by simp), if_pos rfl]
          have hz := tbl_zero (T := tabv a 1 (ofC true)) (Nat.le_refl s) hs
          have : (tbl (tabv a 1 (ofC true)) s (2 ^ a.length)).set s 0 = tbl (tabv a 1 (ofC true)) s (2 ^ a.length) := by
            have h1 := (List.getElem?_eq_some_iff.1 hz).2
            conv => lhs; rw [← h1]
            exact List.set_getElem_self _
          rw [this]
      rw [hfirst, bnd_inl_eq]
      unfold F_spec_l27Count_k2
      rw [idx_ints hv, i64_rest hs0 (by omega), i64and_nat (by omega) (by omega)]
      have hsub : ∀ j, (a[low s] &&& sdiff s (2 ^ low s)).testBit j = true → (sdiff s (2 ^ low s)).testBit j = true := fun j hj => by rw [Nat.testBit_and, Bool.and_eq_true] at hj; exact hj.2
      rw [l27Count_inner a _ hs0 hs hp hT _ hlt hsub _ (by split <;> omega) (by unfold card; split <;> omega), bnd_inl_eq]
      unfold F_spec_l27Count_k4
      rw [ck_of (inI (by omega) (by omega))]
      refine inl_eq (pair_eq ?_ rfl)
      refine tbl_set hs ?_
      rw [htab]
      unfold ofC mates
      rw [hg]
    · simp only [F_spec_l27Count_l1]
      rw [Nat.sub_add_cancel (show 1 ≤ 2 ^ a.length from hp0), tbl_len (Nat.le_refl _), if_neg (by omega)]
  rw [bnd_l key]
  unfold F_spec_l27Count_k5
  rw [tbl_len (Nat.le_refl _), ck_of (inI (by omega) (by omega)), show ((2 ^ a.length : Nat) : Int) - 1 = ((2 ^ a.length - 1 : Nat) : Int) by omega, idx_tbl (by omega)]
open Classical in
theorem specPerfectMany_eq (g : List (List Int)) (hgl : g.length ≤ 1048576) (hl : ∀ x ∈ g, x.length ≤ 1048576) : F_spec_PerfectMany g = some (if GOk g then tabv (nb g) 1 (ofC true) (2 ^ g.length - 1) else -1) := by
  unfold F_spec_PerfectMany
  rw [cal_of (specGraphOk_eq g hl)]
  by_cases hg : GOk g
  case neg => rw [if_pos (by simp [hg]), if_neg hg]
  have h16 := hg.n16
  have h1 := nb_len g
  rw [if_neg (by simp [hg]), if_pos hg, cal_of (l25Bits_eq hg), cal_of (l27Count_eq (by omega) (fun v h => nb_lt16 hg h) true), h1]
/-- a loop that adds up -/
theorem lp_sum {step : Int × Int → Option ((Int × Int) ⊕ (Int ⊕ Int))} (l : List Int) (x0 : Int) (h0 : 0 ≤ x0) (hx : ∀ x ∈ l, 0 ≤ x) (hb : x0 + l.sum ≤ 4000000000000000) (hl : l.length ≤ 1048576)
    (h1 : ∀ (k : Nat) (hk : k < l.length) (x : Int), InI (x + l[k]) → InI ((k : Int) + 1) → step (x, (k : Int)) = some (.inl (x + l[k], (k : Int) + 1))) (h2 : ∀ x, step (x, (l.length : Int)) = some (.inr (.inl x))) :
    lp step (x0, 0) = some (.inl (x0 + l.sum)) := by
  have hpart : ∀ k, k ≤ l.length → 0 ≤ (l.take k).sum ∧ (l.take k).sum ≤ l.sum := by
    intro k hk
    have e : l.sum = (l.take k).sum + (l.drop k).sum := by rw [← List.sum_append, List.take_append_drop]
    have a1 := sum_nonneg (l := l.take k) (fun x h => hx x (List.mem_of_mem_take h))
    have a2 := sum_nonneg (l := l.drop k) (fun x h => hx x (List.mem_of_mem_drop h))
    omega
  refine lp_upto (fun k => (x0 + (l.take k).sum, (k : Int))) l.length (by simp) (fun k hk => ?_) ?_
  · have hs : (l.take (k + 1)).sum = (l.take k).sum + l[k] := by rw [take_succ_of hk, List.sum_append]; simp
    have p0 := hpart k (by omega)
    have p1 := hpart (k + 1) (by omega)
    have := hx _ (List.getElem_mem hk)
    rw [h1 k hk _ (inI (by omega) (by omega)) (inI (by omega) (by omega)), hs]
    refine inl_eq (pair_eq (by omega) (by omega))
  · rw [List.take_length]; exact h2 _
theorem mates_vals {a : List Nat} {p : Bool} {s : Nat} (h : s ≠ 0) (hs : s < 2 ^ 16) : ∀ x ∈ (mates a s).map (fun u => tabv a 1 (ofC p) (sdiff (sdiff s (2 ^ low s)) (2 ^ u))), 0 ≤ x := by
  intro x hx
  obtain ⟨u, _, rfl⟩ := List.mem_map.1 hx
  have hr := less_rest h
  have hle := sdiff_le (sdiff s (2 ^ low s)) (2 ^ u)
  exact (tabv_small a (ofC p) (ofC_ok p) (by omega)).1
open Classical in
theorem implPerfectMany_eq (g : List (List Int)) (hgl : g.length ≤ 1048576) (hl : ∀ x ∈ g, x.length ≤ 1048576) : F_impl_PerfectMany g = some (if GOk g then tabv (nb g) 1 (ofC true) (2 ^ g.length - 1) else -1) := by
  unfold F_impl_PerfectMany
  rw [cal_of (implGraphOk_eq g hgl hl)]
  by_cases hg : GOk g
  case neg => rw [if_pos (by simp [hg]), if_neg hg]
  have h16 := hg.n16
  have h1 := nb_len g
  have hp : 2 ^ (nb g).length ≤ 2 ^ 16 := pow16 (by omega)
  have hp0 : 0 < 2 ^ (nb g).length := Nat.two_pow_pos _
  rw [if_neg (by simp [hg]), if_pos hg, cal_of (netsOf_eq hg), cal_of (onSets_eq (by omega) (fun v h => nb_lt16 hg h) 1 _ (ofC true) (fun s hs h0 => ?_)), cal_of (all_eq (by omega)), bv_toNat (by omega), idx_of (Int.natCast_nonneg _) (by rw [Int.toNat_natCast, List.getElem?_map, List.getElem?_range (by omega)]; rfl), h1]
  unfold F_impl_PerfectMany_1
  have hv := mates_vals (a := nb g) (p := true) h0 (by omega)
  have hsm := tabv_small (nb g) (ofC true) (ofC_ok true) (show s < 2 ^ 16 by omega)
  have ht := tabv_step (nb g) 1 (ofC true) h0
  have hml := mates_len (a := nb g) h0 (show s < 2 ^ 16 by omega)
  have hcl := els_len_le s
  unfold card at hml
  have e : ofC true (tabv (nb g) 1 (ofC true) (sdiff s (2 ^ low s))) = fun l => 0 + l.sum := by funext l; simp [ofC]
  rw [e] at ht
  simp only at ht
  rw [bnd_l (lp_sum _ _ (by decide) hv (by omega) (by simp; omega) (fun k hk x g1 g2 => ?_) (fun x => ?_))]
  · unfold F_impl_PerfectMany_1_k2; rw [ht]
  · simp only [F_impl_PerfectMany_1_l1]
    rw [if_pos (by omega), idx_nat hk, ck_of g1, ck_of g2]
  · simp only [F_impl_PerfectMany_1_l1]; rw [if_neg (by omega)]
end Go.Proofs.YtgikmgceiiahpabDoor

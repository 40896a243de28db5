/- What is reached from a vertex among some, and the parts of some vertices. -/
import Derived.Test.YtadjcnllmkdgiaaDoorCount
import Derived.Test.YtadjcnllmkdgiaaDoorMatchCount
namespace Go.Proofs.YtadjcnllmkdgiaaDoor
section
variable {S O A : Type}
theorem lp_inl {step : S → Option (S ⊕ O)} {s s' : S} (h : step s = some (.inl s')) : lp step s = lp step s' := by rw [lp_unfold, h]
theorem lp_inr {step : S → Option (S ⊕ O)} {s : S} {o : O} (h : step s = some (.inr o)) : lp step s = some o := by rw [lp_unfold, h]
/-- a counting loop told by what holds on its way -/
theorem lp_ex {step : S → Option (S ⊕ O)} (st : Nat → A → S) (n : Nat) (Inv : Nat → A → Prop) (Q : O → Prop) (h : ∀ k a, k < n → Inv k a → ∃ a', step (st k a) = some (.inl (st (k + 1) a')) ∧ Inv (k + 1) a')
    (he : ∀ a, Inv n a → ∃ o, step (st n a) = some (.inr o) ∧ Q o) : ∀ (m k : Nat) (a : A), k + m = n → Inv k a → ∃ o, lp step (st k a) = some o ∧ Q o
  | 0, k, a, hk, hi => by
    have e : k = n := by omega
    subst e
    obtain ⟨o, h1, h2⟩ := he a hi
    exact ⟨o, lp_inr h1, h2⟩
  | m + 1, k, a, hk, hi => by
    obtain ⟨a', h1, h2⟩ := h k a (by omega) hi
    obtain ⟨o, h3, h4⟩ := lp_ex st n Inv Q h he m (k + 1) a' (by omega) h2
    exact ⟨o, by rw [lp_inl h1, h3], h4⟩
end
/-- one set in another -/
def SubB (s t : Nat) : Prop := ∀ j, s.testBit j = true → t.testBit j = true
theorem SubB.antisymm {s t : Nat} (h : SubB s t) (h' : SubB t s) : s = t := bits_ext fun j => by
  cases e : s.testBit j with
  | true => exact (h j e).symm
  | false => cases e2 : t.testBit j with
    | false => rfl
    | true => rw [h' j e2] at e; cases e
theorem SubB.le {s t : Nat} (h : SubB s t) : s ≤ t := by
  have e : s = t &&& s := bits_ext fun j => by
    rw [Nat.testBit_and]
    cases e : s.testBit j with
    | true => rw [h j e]; rfl
    | false => simp
  rw [e]; exact Nat.and_le_left
theorem SubB.refl (s : Nat) : SubB s s := fun _ h => h
theorem SubB.trans {s t u : Nat} (h : SubB s t) (h' : SubB t u) : SubB s u := fun j hj => h' j (h j hj)
theorem SubB.or_left (s t : Nat) : SubB s (s ||| t) := fun j h => by rw [Nat.testBit_or, h]; rfl
theorem SubB.or {s t u : Nat} (h : SubB s u) (h' : SubB t u) : SubB (s ||| t) u := fun j hj => by
  rw [Nat.testBit_or, Bool.or_eq_true] at hj
  exact hj.elim (h j) (h' j)
/-- what the neighbours among some leave as it is -/
def Shut (a : List Nat) (i t : Nat) : Prop := ∀ u, t.testBit u = true → SubB (a.getD u 0 &&& i) t
open Classical in
/-- what is reached from a vertex among some -/
noncomputable def reach (a : List Nat) (i v : Nat) : Nat := mk (ints ((List.range 16).filter fun w => decide (∀ t, t < 2 ^ 16 → t.testBit v = true → Shut a i t → t.testBit w = true)))
open Classical in
theorem reach_bit {a : List Nat} {i v w : Nat} : (reach a i v).testBit w = true ↔ w < 16 ∧ ∀ t, t < 2 ^ 16 → t.testBit v = true → Shut a i t → t.testBit w = true := by
  unfold reach
  rw [mk_bit, decide_eq_true_iff]
  constructor
  · rintro ⟨x, hx, rfl⟩
    unfold ints at hx
    obtain ⟨u, hu, rfl⟩ := List.mem_map.1 hx
    rw [List.mem_filter, List.mem_range, decide_eq_true_iff] at hu
    simpa using hu
  · rintro ⟨h1, h2⟩
    exact ⟨(w : Int), List.mem_map.2 ⟨w, List.mem_filter.2 ⟨List.mem_range.2 h1, by simpa using h2⟩, rfl⟩, by simp⟩
theorem reach_lt (a : List Nat) (i v : Nat) : reach a i v < 2 ^ 16 := by
  unfold reach
  refine mk_lt fun x hx => ?_
  unfold ints at hx
  obtain ⟨u, hu, rfl⟩ := List.mem_map.1 hx
  have := List.mem_range.1 (List.mem_filter.1 hu).1
  omega
theorem reach_self {a : List Nat} {i v : Nat} (hv : v < 16) : (reach a i v).testBit v = true := reach_bit.2 ⟨hv, fun t _ h _ => h⟩
theorem reach_least {a : List Nat} {i v t : Nat} (ht : t < 2 ^ 16) (hv : t.testBit v = true) (hc : Shut a i t) : SubB (reach a i v) t := fun w hw => (reach_bit.1 hw).2 t ht hv hc
theorem reach_closed {a : List Nat} {i v : Nat} (hi : i < 2 ^ 16) : Shut a i (reach a i v) := fun u hu w hw => by
  refine reach_bit.2 ⟨bit_lt hi (by rw [Nat.testBit_and, Bool.and_eq_true] at hw; exact hw.2), fun t ht hv hc => hc u ((reach_bit.1 hu).2 t ht hv hc) w hw⟩
theorem reach_in {a : List Nat} {i v : Nat} (hi : i < 2 ^ 16) (hv : i.testBit v = true) : SubB (reach a i v) i := reach_least hi hv fun u _ w hw => by rw [Nat.testBit_and, Bool.and_eq_true] at hw; exact hw.2
/-- reached, and closed: all that is reached -/
theorem reach_eq_of {a : List Nat} {i v s : Nat} (hs : s < 2 ^ 16) (hv : s.testBit v = true) (hin : SubB s (reach a i v)) (hc : Shut a i s) : s = reach a i v := SubB.antisymm hin (reach_least hs hv hc)
theorem sub_lt {s t : Nat} (h : SubB s t) (ht : t < 2 ^ 16) : s < 2 ^ 16 := Nat.lt_of_le_of_lt h.le ht
theorem sub_step {a : List Nat} {i v s u : Nat} (hi : i < 2 ^ 16) (hin : SubB s (reach a i v)) (hu : s.testBit u = true) : SubB (a.getD u 0 &&& i) (reach a i v) := reach_closed hi u (hin u hu)
theorem sdiff_zero {s t : Nat} : sdiff s t = 0 ↔ SubB s t := by
  constructor
  · intro h j hj
    have : (sdiff s t).testBit j = false := by rw [h, Nat.zero_testBit]
    rw [sdiff_bit, hj] at this
    simpa using this
  · intro h
    apply bits_ext; intro j
    rw [sdiff_bit, Nat.zero_testBit]
    cases e : s.testBit j with
    | true => rw [h j e]; rfl
    | false => rfl
theorem lt_or_of_new {s t : Nat} (h : ¬ SubB t s) : s < s ||| t := by
  have h1 := (SubB.or_left s t).le
  rcases Nat.lt_or_ge s (s ||| t) with g | g
  · exact g
  · exact absurd (fun j hj => by have e : s ||| t = s := by omega
                                 rw [← e, Nat.testBit_or, hj]; simp) h
theorem l25Many_eq {n : Nat} (hn : n < 2 ^ 16) : F_spec_l25Many (n : Int) = some (card n : Int) := by
  have key : ∀ (n : Nat), n < 2 ^ 16 → ∀ c : Nat, c + card n ≤ 1000 → lp (fun s => F_spec_l25Many_l1 s.1 s.2) ((n : Int), (c : Int)) = some (.inl ((c + card n : Nat) : Int)) := by
    intro n
    induction n using Nat.strongRecOn with
    | _ n ih =>
      intro hn c hc
      by_cases h0 : n = 0
      · subst h0
        refine lp_inr ?_
        simp only [F_spec_l25Many_l1]
        rw [if_neg (by decide), card_zero, Nat.add_zero]
      · have hr := rest_lt h0
        have hc2 := card_cons h0 hn
        have st : F_spec_l25Many_l1 (n : Int) (c : Int) = some (.inl (((n &&& (n - 1) : Nat) : Int), ((c + 1 : Nat) : Int))) := by
          unfold F_spec_l25Many_l1
          rw [if_pos (by omega), ck_of (inI (by omega) (by omega)), ck_of (inI (by omega) (by omega)), show (n : Int) - 1 = ((n - 1 : Nat) : Int) by omega, i64and_nat (by omega) (by omega)]; rfl
        rw [lp_inl (step := fun s => F_spec_l25Many_l1 s.1 s.2) st, ih _ hr (by omega) (c + 1) (by omega), hc2]; congr 3; omega
  have h16 := els_len_le n
  have := key n hn 0 (by unfold card; omega)
  unfold F_spec_l25Many
  rw [show ((0 : Nat) : Int) = 0 from rfl, Nat.zero_add] at this
  rw [bnd_l this]; rfl
theorem l27Part_eq {a : List Nat} {i v : Nat} (ha : a.length ≤ 16) (hb : ∀ v (h : v < a.length), a[v] < 2 ^ 16) (hi : i < 2 ^ a.length) (hv : i.testBit v = true) : F_spec_l27Part (ints a) (v : Int) (i : Int) = some (reach a i v : Int) := by
  have hp16 := pow16 ha
  have hi16 : i < 2 ^ 16 := by omega
  have hvn : v < a.length := bit_lt hi hv
  have h2v : 2 ^ v < 2 ^ 62 := Nat.pow_lt_pow_right (by decide) (by omega)
  have hR := reach_lt a i v
  have hRi := reach_in (a := a) hi16 hv
  unfold F_spec_l27Part
  rw [grd_of (Int.natCast_nonneg _), Int.toNat_natCast, two_pow_nat, ck_of (inI_nat h2v)]
  -- a round
  have round : ∀ p : Nat, SubB p (reach a i v) → p.testBit v = true → ∃ p' : Nat, ∃ t : Bool, lp (fun s => F_spec_l27Part_l2 (ints a) (i : Int) s.1 s.2.1 s.2.2) ((p : Int), false, 0) = some (.inl ((p' : Int), t)) ∧ SubB p' (reach a i v) ∧ SubB p p' ∧ (t = true → p < p') ∧ (t = false → p' = p ∧ Shut a i p) := by
    intro p hp hpv
    have := lp_ex (step := fun s => F_spec_l27Part_l2 (ints a) (i : Int) s.1 s.2.1 s.2.2) (fun (k : Nat) (x : Nat × Bool) => ((x.1 : Int), x.2, (k : Int))) a.length
      (fun k x => SubB x.1 (reach a i v) ∧ SubB p x.1 ∧ (x.2 = true → p < x.1) ∧ (x.2 = false → x.1 = p ∧ ∀ u, u < k → p.testBit u = true → SubB (a.getD u 0 &&& i) p)) 
      (fun o => ∃ p' : Nat, ∃ t : Bool, o = .inl ((p' : Int), t) ∧ SubB p' (reach a i v) ∧ SubB p p' ∧ (t = true → p < p') ∧ (t = false → p' = p ∧ Shut a i p)) ?_ ?_ a.length 0 (p, false) (by omega) ⟨hp, SubB.refl p, fun h => (by cases h), fun _ => ⟨rfl, fun u hu => (by omega)⟩⟩
    · obtain ⟨o, h1, p', t, rfl, h2⟩ := this
      exact ⟨p', t, h1, h2⟩
    · rintro k ⟨q, t⟩ hk ⟨q1, q2, q3, q4⟩
      simp only at q1 q2 q3 q4 ⊢
      have hq := sub_lt q1 hR
      have hbk := hb k hk
      have hgk := getD_get hk
      unfold F_spec_l27Part_l2
      rw [if_pos (by rw [ints_len]; omega), grd_of (Int.natCast_nonneg _), Int.toNat_natCast, bit_asked (by omega)]
      cases e1 : q.testBit k with
      | false =>
        rw [if_neg (by simp), ck_of (inI (by omega) (by omega))]
        refine ⟨(q, t), rfl, q1, q2, q3, fun ht => ⟨(q4 ht).1, fun u hu hb2 => ?_⟩⟩
        by_cases e2 : u = k
        · subst e2; rw [← (q4 ht).1, e1] at hb2; cases hb2
        · exact (q4 ht).2 u (by omega) hb2
      | true =>
        have hand : a[k] &&& i < 2 ^ 16 := and_lt hbk
        rw [if_pos (by simp), idx_ints hk, i64and_nat (by omega) (by omega), i64andn_nat (by omega) (by omega)]
        by_cases e2 : SubB (a[k] &&& i) q
        · rw [if_neg (by rw [sdiff_zero.2 e2]; simp), ck_of (inI (by omega) (by omega))]
          refine ⟨(q, t), rfl, q1, q2, q3, fun ht => ⟨(q4 ht).1, fun u hu hb2 => ?_⟩⟩
          by_cases e3 : u = k
          · subst e3; rw [hgk, ← (q4 ht).1]; exact e2
          · exact (q4 ht).2 u (by omega) hb2
        · have hne : sdiff (a[k] &&& i) q ≠ 0 := fun h => e2 (sdiff_zero.1 h)
          rw [if_pos (by omega), idx_ints hk, ck_of (inI (by omega) (by omega)), i64and_nat (by omega) (by omega), i64or_nat (by omega) (by omega)]
          have h3 : SubB (a[k] &&& i) (reach a i v) := by rw [← hgk]; exact sub_step hi16 q1 e1
          exact ⟨(q ||| (a[k] &&& i), true), rfl, SubB.or q1 h3, SubB.trans q2 (SubB.or_left _ _), fun _ => Nat.lt_of_le_of_lt q2.le (lt_or_of_new e2), fun h => by cases h⟩
    · rintro ⟨q, t⟩ ⟨q1, q2, q3, q4⟩
      simp only at q1 q2 q3 q4 ⊢
      unfold F_spec_l27Part_l2
      rw [if_neg (by rw [ints_len]; omega)]
      refine ⟨_, rfl, q, t, rfl, q1, q2, q3, fun ht => ⟨(q4 ht).1, fun u hu => ?_⟩⟩
      exact (q4 ht).2 u (bit_lt (Nat.lt_of_le_of_lt (SubB.le (SubB.trans hp hRi)) hi) hu) hu
  have key : ∀ (m p : Nat), 2 ^ 16 - p = m → SubB p (reach a i v) → p.testBit v = true → lp (fun s => F_spec_l27Part_l1 (ints a) (i : Int) s.1 s.2) ((p : Int), true) = some (.inl (reach a i v : Int)) := by
    intro m
    induction m using Nat.strongRecOn with
    | _ m ih =>
      intro p hm hp hpv
      obtain ⟨p', t, h1, h2, h3, h4, h5⟩ := round p hp hpv
      have hp16' := sub_lt h2 hR
      have st : F_spec_l27Part_l1 (ints a) (i : Int) (p : Int) true = some (.inl ((p' : Int), t)) := by
        unfold F_spec_l27Part_l1
        rw [if_pos rfl, bnd_l h1]; rfl
      rw [lp_inl (step := fun s => F_spec_l27Part_l1 (ints a) (i : Int) s.1 s.2) st]
      cases t with
      | true => exact ih _ (by have := h4 rfl; omega) p' rfl h2 (h3 v hpv)
      | false =>
        obtain ⟨e, hc⟩ := h5 rfl
        subst e
        refine lp_inr ?_
        simp only [F_spec_l27Part_l1]
        rw [if_neg (by simp), reach_eq_of hp16' hpv hp hc]
  rw [bnd_l (key _ (2 ^ v) rfl (fun j hj => ?_) (Nat.testBit_two_pow_self ..))]
  · rfl
  · rw [Nat.testBit_two_pow] at hj
    have e : v = j := by simpa using hj
    subst e; exact reach_self (by omega)
theorem foldl_or_bit (f : Nat → Nat) : ∀ (l : List Nat) (b j : Nat), (l.foldl (fun b u => b ||| f u) b).testBit j = true ↔ b.testBit j = true ∨ ∃ u ∈ l, (f u).testBit j = true
  | [], b, j => by simp
  | x :: l, b, j => by rw [List.foldl_cons, foldl_or_bit f l, Nat.testBit_or, Bool.or_eq_true]; simp [or_assoc]
theorem reach_eq {a : List Nat} {i v : Nat} (ha : a.length ≤ 16) (hb : ∀ v (h : v < a.length), a[v] < 2 ^ 16) (hi : i < 2 ^ a.length) (hv : i.testBit v = true) : F_impl_reach (bvs a) (v : Int) (BitVec.ofNat 32 i) = some (BitVec.ofNat 32 (reach a i v)) := by
  have hp16 := pow16 ha
  have hi16 : i < 2 ^ 16 := by omega
  have hvn : v < a.length := bit_lt hi hv
  have hR := reach_lt a i v
  have hRi := reach_in (a := a) hi16 hv
  have hRn : reach a i v < 2 ^ a.length := Nat.lt_of_le_of_lt hRi.le hi
  unfold F_impl_reach
  rw [cal_of (one_eq (by omega))]
  have round : ∀ p : Nat, SubB p (reach a i v) → lp (fun s => F_impl_reach_l2 (bvs a) (BitVec.ofNat 32 i) (ints (els p)) s.1 s.2) (BitVec.ofNat 32 p, 0) = some (.inl (BitVec.ofNat 32 ((els p).foldl (fun b u => b ||| (a.getD u 0 &&& i)) p))) := by
    intro p hp
    have hel := els_len_le p
    have hpn : p < 2 ^ a.length := Nat.lt_of_le_of_lt hp.le hRn
    refine lp_upto (fun k => (BitVec.ofNat 32 (((els p).take k).foldl (fun b u => b ||| (a.getD u 0 &&& i)) p), (k : Int))) (els p).length rfl (fun k hk => ?_) ?_
    · simp only [F_impl_reach_l2]
      have hu := bit_lt hpn (els_bit (List.getElem_mem hk))
      rw [if_pos (by rw [ints_len]; omega), idx_ints hk, idx_bvs hu, ck_of (inI (by omega) (by omega)), bv_and, bv_or, take_succ_of hk, List.foldl_append, List.foldl_cons, List.foldl_nil, getD_get hu]; rfl
    · simp only [F_impl_reach_l2]
      rw [if_neg (by rw [ints_len]; omega), List.take_length]
  have key : ∀ (m p : Nat), 2 ^ 16 - p = m → SubB p (reach a i v) → p.testBit v = true → lp (fun s => F_impl_reach_l1 (bvs a) (BitVec.ofNat 32 i) s) (BitVec.ofNat 32 p) = some (.inr (BitVec.ofNat 32 (reach a i v))) := by
    intro m
    induction m using Nat.strongRecOn with
    | _ m ih =>
      intro p hm hp hpv
      have hp16 := sub_lt hp hR
      have hbit := foldl_or_bit (fun u => a.getD u 0 &&& i) (els p) p
      have h1 := round p hp
      generalize (els p).foldl (fun b u => b ||| (a.getD u 0 &&& i)) p = p' at hbit h1
      have hsub : SubB p p' := fun j hj => (hbit j).2 (.inl hj)
      have hin : SubB p' (reach a i v) := fun j hj => ((hbit j).1 hj).elim (hp j) fun ⟨u, hu, hj⟩ => sub_step hi16 hp (els_bit hu) j hj
      have hp16' := sub_lt hin hR
      by_cases e : p' = p
      · refine lp_inr ?_
        simp only [F_impl_reach_l1]
        rw [cal_of (list_eq hp16), bnd_l h1]
        unfold F_impl_reach_k3
        rw [if_pos (by rw [e])]
        have hc : Shut a i p := fun u hu w hw => by rw [← e]; exact (hbit w).2 (.inr ⟨u, (mem_els hp16).2 hu, hw⟩)
        rw [reach_eq_of hp16 hpv hp hc]
      · have st : F_impl_reach_l1 (bvs a) (BitVec.ofNat 32 i) (BitVec.ofNat 32 p) = some (.inl (BitVec.ofNat 32 p')) := by
          unfold F_impl_reach_l1
          rw [cal_of (list_eq hp16), bnd_l h1]
          unfold F_impl_reach_k3
          rw [if_neg (by rw [bv_inj (by omega) (by omega)]; exact e)]
        rw [lp_inl (step := fun s => F_impl_reach_l1 (bvs a) (BitVec.ofNat 32 i) s) st]
        have := hsub.le
        exact ih _ (by omega) p' rfl hin (hsub v hpv)
  rw [key _ (2 ^ v) rfl (fun j hj => ?_) (Nat.testBit_two_pow_self ..)]
  · rfl
  · rw [Nat.testBit_two_pow] at hj
    have e : v = j := by simpa using hj
    subst e; exact reach_self (by omega)
theorem reach_low {a : List Nat} {i : Nat} (h : i ≠ 0) (hi : i < 2 ^ 16) : (reach a i (low i)).testBit (low i) = true := reach_self (low_lt h hi)
theorem sdiff_reach_lt {a : List Nat} {i : Nat} (h : i ≠ 0) (hi : i < 2 ^ 16) : sdiff i (reach a i (low i)) < i := by
  have h1 := sdiff_le i (reach a i (low i))
  rcases Nat.lt_or_ge (sdiff i (reach a i (low i))) i with g | g
  · exact g
  · have e : sdiff i (reach a i (low i)) = i := by omega
    have h2 : (sdiff i (reach a i (low i))).testBit (low i) = true := by rw [e]; exact low_bit h
    rw [sdiff_bit, reach_low h hi] at h2
    simp at h2
/-- the parts of some vertices -/
noncomputable def partsOf (a : List Nat) (i : Nat) : List Nat :=
  if h : i = 0 ∨ 2 ^ 16 ≤ i then [] else reach a i (low i) :: partsOf a (sdiff i (reach a i (low i)))
termination_by i
decreasing_by exact sdiff_reach_lt (fun e => h (.inl e)) (by omega)
theorem partsOf_zero (a : List Nat) : partsOf a 0 = [] := by rw [partsOf]; simp
theorem partsOf_cons {a : List Nat} {i : Nat} (h : i ≠ 0) (hi : i < 2 ^ 16) : partsOf a i = reach a i (low i) :: partsOf a (sdiff i (reach a i (low i))) := by
  rw [partsOf, dif_neg (by omega)]
theorem sdiff_reach_card {a : List Nat} {i : Nat} (h : i ≠ 0) (hi : i < 2 ^ 16) : card (sdiff i (reach a i (low i))) < card i := by
  have h1 := card_del (low_bit h) hi
  have h2 : card (sdiff i (reach a i (low i))) ≤ card (sdiff i (2 ^ low i)) := card_mono fun j hj => by
    rw [sdiff_bit, Bool.and_eq_true, Bool.not_eq_true'] at hj
    rw [delbit_bit, hj.1, Bool.true_and, Bool.not_eq_true', decide_eq_false_iff_not]
    intro e; subst e
    rw [reach_low h hi] at hj; cases hj.2
  omega
theorem partsOf_len {a : List Nat} : ∀ {i : Nat}, i < 2 ^ 16 → (partsOf a i).length ≤ card i := by
  intro i
  induction i using Nat.strongRecOn with
  | _ i ih =>
    intro hi
    by_cases h : i = 0
    · subst h; rw [partsOf_zero]; simp
    · have h1 := sdiff_reach_lt (a := a) h hi
      have h2 := sdiff_reach_card (a := a) h hi
      rw [partsOf_cons h hi, List.length_cons]
      have := ih _ h1 (by omega)
      omega
theorem partsOf_lt {a : List Nat} : ∀ {i : Nat}, i < 2 ^ 16 → ∀ s ∈ partsOf a i, s < 2 ^ 16 := by
  intro i
  induction i using Nat.strongRecOn with
  | _ i ih =>
    intro hi s hs
    by_cases h : i = 0
    · subst h; rw [partsOf_zero] at hs; cases hs
    · have h1 := sdiff_reach_lt (a := a) h hi
      rw [partsOf_cons h hi] at hs
      rcases List.mem_cons.1 hs with e | e
      · rw [e]; exact reach_lt ..
      · exact ih _ h1 (by omega) s e
/-- how many of an odd number -/
def oddIn (l : List Nat) : Nat := (l.map fun s => card s % 2).sum
theorem oddIn_le : ∀ l : List Nat, oddIn l ≤ l.length
  | [] => by simp [oddIn]
  | x :: l => by
    have := oddIn_le l
    unfold oddIn at this ⊢
    rw [List.map_cons, List.sum_cons, List.length_cons]; omega
theorem l27Parts_eq {a : List Nat} {i : Nat} (ha : a.length ≤ 16) (hb : ∀ v (h : v < a.length), a[v] < 2 ^ 16) (hi : i < 2 ^ a.length) : F_spec_l27Parts (ints a) (i : Int) = some (((partsOf a i).length : Int), (oddIn (partsOf a i) : Int)) := by
  have hp16 := pow16 ha
  have key : ∀ (i : Nat), i < 2 ^ a.length → ∀ c d : Nat, c + (partsOf a i).length ≤ 1000 → d + oddIn (partsOf a i) ≤ 1000 → lp (fun s => F_spec_l27Parts_l1 (ints a) s.1 s.2.1 s.2.2) ((i : Int), (c : Int), (d : Int)) = some (.inl (((c + (partsOf a i).length : Nat) : Int), ((d + oddIn (partsOf a i) : Nat) : Int))) := by
    intro i
    induction i using Nat.strongRecOn with
    | _ i ih =>
      intro hi c d hc hd
      by_cases h : i = 0
      · subst h
        refine lp_inr ?_
        simp only [F_spec_l27Parts_l1]
        rw [if_neg (by decide), partsOf_zero]; rfl
      · have hi16 : i < 2 ^ 16 := by omega
        have h1 := sdiff_reach_lt (a := a) h hi16
        have hR := reach_lt a i (low i)
        rw [partsOf_cons h hi16] at hc hd ⊢
        unfold oddIn at hd ⊢
        rw [List.map_cons, List.sum_cons] at hd ⊢
        rw [List.length_cons] at hc ⊢
        have st : F_spec_l27Parts_l1 (ints a) (i : Int) (c : Int) (d : Int) = some (.inl (((sdiff i (reach a i (low i)) : Nat) : Int), ((c + 1 : Nat) : Int), ((d + card (reach a i (low i)) % 2 : Nat) : Int))) := by
          unfold F_spec_l27Parts_l1
          rw [if_pos (by omega), cal_of (l27Low_eq h (by omega)), cal_of (l27Part_eq ha hb hi (low_bit h)), ck_of (inI (by omega) (by omega)), cal_of (l25Many_eq hR), grd_of ⟨Int.natCast_nonneg _, by decide⟩, ck_of (inI (by omega) (by omega)), i64andn_nat (by omega) (by omega)]
          refine inl_eq (pair_eq rfl (pair_eq (by omega) (by omega)))
        rw [lp_inl (step := fun s => F_spec_l27Parts_l1 (ints a) s.1 s.2.1 s.2.2) st, ih _ h1 (by omega) _ _ (by omega) (by unfold oddIn; omega)]
        unfold oddIn
        congr 3 <;> congr 1 <;> omega
  have h16 := els_len_le i
  have h1 := partsOf_len (a := a) (i := i) (by omega)
  have h2 := oddIn_le (partsOf a i)
  have := key i hi 0 0 (by unfold card at h1; omega) (by unfold card at h1; omega)
  unfold F_spec_l27Parts
  rw [show ((0 : Nat) : Int) = 0 from rfl, Nat.zero_add, Nat.zero_add] at this
  rw [bnd_l this]; rfl
theorem implPartsOf_eq {a : List Nat} {i : Nat} (ha : a.length ≤ 16) (hb : ∀ v (h : v < a.length), a[v] < 2 ^ 16) (hi : i < 2 ^ a.length) : F_impl_partsOf (bvs a) (BitVec.ofNat 32 i) = some (bvs (partsOf a i)) := by
  have hp16 := pow16 ha
  have key : ∀ (i : Nat), i < 2 ^ a.length → ∀ l : List Nat, l.length + (partsOf a i).length ≤ 1000 → lp (fun s => F_impl_partsOf_l1 (bvs a) s.1 s.2) (BitVec.ofNat 32 i, bvs l) = some (.inl (bvs (l ++ partsOf a i))) := by
    intro i
    induction i using Nat.strongRecOn with
    | _ i ih =>
      intro hi l hl
      by_cases h : i = 0
      · subst h
        refine lp_inr ?_
        simp only [F_impl_partsOf_l1]
        rw [if_neg (by simp), partsOf_zero, List.append_nil]
      · have hi16 : i < 2 ^ 16 := by omega
        have h1 := sdiff_reach_lt (a := a) h hi16
        have hR := reach_lt a i (low i)
        rw [partsOf_cons h hi16] at hl ⊢
        rw [List.length_cons] at hl
        have st : F_impl_partsOf_l1 (bvs a) (BitVec.ofNat 32 i) (bvs l) = some (.inl (BitVec.ofNat 32 (sdiff i (reach a i (low i))), bvs (l ++ [reach a i (low i)]))) := by
          unfold F_impl_partsOf_l1
          rw [if_pos (by rw [Ne, bv_inj (by omega) (by decide)]; exact h), cal_of (least_eq h (by omega)), cal_of (reach_eq ha hb hi (low_bit h)), app1_s (by rw [bvs_len]; omega), bv_andn (by omega), show bvs l ++ [BitVec.ofNat 32 (reach a i (low i))] = bvs (l ++ [reach a i (low i)]) by simp [bvs]]
        rw [lp_inl (step := fun s => F_impl_partsOf_l1 (bvs a) s.1 s.2) st, ih _ h1 (by omega) _ (by rw [List.length_append, List.length_singleton]; omega), List.append_assoc]; rfl
  have h16 := els_len_le i
  have h1 := partsOf_len (a := a) (i := i) (by omega)
  have := key i hi [] (by unfold card at h1; simp; omega)
  unfold F_impl_partsOf
  rw [show bvs [] = [] from rfl, List.nil_append] at this
  rw [bnd_l this]; rfl
theorem oddParts_eq {a : List Nat} {i : Nat} (ha : a.length ≤ 16) (hb : ∀ v (h : v < a.length), a[v] < 2 ^ 16) (hi : i < 2 ^ a.length) : F_impl_oddParts (bvs a) (BitVec.ofNat 32 i) = some (oddIn (partsOf a i) : Int) := by
  have hp16 := pow16 ha
  have h16 := els_len_le i
  have h1 := partsOf_len (a := a) (i := i) (by omega)
  unfold card at h1
  unfold F_impl_oddParts
  rw [cal_of (implPartsOf_eq ha hb hi)]
  have hlt := partsOf_lt (a := a) (i := i) (by omega)
  generalize partsOf a i = l at *
  have key : lp (fun s => F_impl_oddParts_l1 (bvs l) s.1 s.2) (0, 0) = some (.inl (oddIn l : Int)) := by
    refine lp_upto (fun k => ((oddIn (l.take k) : Int), (k : Int))) l.length rfl (fun k hk => ?_) ?_
    · simp only [F_impl_oddParts_l1]
      have h2 := oddIn_le (l.take k)
      rw [List.length_take] at h2
      have e : oddIn (l.take (k + 1)) = oddIn (l.take k) + card l[k] % 2 := by unfold oddIn; rw [take_succ_of hk, List.map_append, List.sum_append]; simp
      rw [bvs_len, if_pos (by omega), idx_bvs hk, cal_of (size_eq (hlt _ (List.getElem_mem hk))), grd_of ⟨Int.natCast_nonneg _, by decide⟩, ck_of (inI (by omega) (by omega)), ck_of (inI (by omega) (by omega)), e]
      refine inl_eq (pair_eq (by omega) rfl)
    · simp only [F_impl_oddParts_l1]
      rw [bvs_len, if_neg (by omega), List.take_length]
  rw [bnd_l key]; rfl
/-- how many odd parts are left without some vertices -/
noncomputable def oddLeft (g : List (List Int)) (s : List Int) : Nat := oddIn (partsOf (nb g) (sdiff (2 ^ g.length - 1) (mk s)))
theorem oddLeft_le {g : List (List Int)} (hg : GOk g) (s : List Int) : oddLeft g s ≤ 16 := by
  have hp16 := pow16 hg.n16
  have h0 : 0 < 2 ^ g.length := Nat.two_pow_pos _
  have := sdiff_le (2 ^ g.length - 1) (mk s)
  have h1 := oddIn_le (partsOf (nb g) (sdiff (2 ^ g.length - 1) (mk s)))
  have h2 := partsOf_len (a := nb g) (i := sdiff (2 ^ g.length - 1) (mk s)) (by omega)
  have h3 := els_len_le (sdiff (2 ^ g.length - 1) (mk s))
  unfold card at h2; unfold oddLeft; omega
open Classical in
noncomputable def resOddParts (g : List (List Int)) (s : List Int) : Int := if GOk g ∧ Rises s g.length then (oddLeft g s : Int) else -1
theorem specOddParts_eq (g : List (List Int)) (s : List Int) (hgl : g.length ≤ 1048576) (hl : ∀ x ∈ g, x.length ≤ 1048576) (hs : s.length ≤ 1048576) : F_spec_OddParts g s = some (resOddParts g s) := by
  unfold F_spec_OddParts resOddParts
  rw [cal_of (specGraphOk_eq g hl)]
  by_cases hg : GOk g
  case neg => rw [if_pos (by simp [hg]), if_neg (fun h => hg h.1)]
  rw [if_neg (by simp [hg]), cal_of (specSetOk_eq g s hl hs)]
  by_cases hr : Rises s g.length
  case neg => rw [if_pos (by simp [hr]), if_neg (fun h => hr h.2)]
  have h16 := hg.n16
  have hnl := nb_len g
  have hp16 := pow16 h16
  have h0 : 0 < 2 ^ g.length := Nat.two_pow_pos _
  have hle := sdiff_le (2 ^ g.length - 1) (mk s)
  have hms := hr.lt
  rw [if_neg (by simp [hr, hg]), if_pos ⟨hg, hr⟩, cal_of (l25Bits_eq hg), cal_of (l25All_eq h16), cal_of (l25Mask_eq (fun v hv => by have := hr.mem hv; omega) hs), i64andn_nat (by omega) (by omega), cal_of (l27Parts_eq (by omega) (fun v h => nb_lt16 hg h) (by rw [hnl]; omega))]; rfl
theorem implOddParts_eq (g : List (List Int)) (s : List Int) (hgl : g.length ≤ 1048576) (hl : ∀ x ∈ g, x.length ≤ 1048576) (hs : s.length ≤ 1048576) : F_impl_OddParts g s = some (resOddParts g s) := by
  unfold F_impl_OddParts resOddParts
  rw [cal_of (implSetOk_eq g s hgl hl hs)]
  by_cases hr : GOk g ∧ Rises s g.length
  case neg => rw [if_pos (by simpa using hr), if_neg hr]
  obtain ⟨hg, hr⟩ := hr
  have h16 := hg.n16
  have hnl := nb_len g
  have hp16 := pow16 h16
  have h0 : 0 < 2 ^ g.length := Nat.two_pow_pos _
  have hle := sdiff_le (2 ^ g.length - 1) (mk s)
  have hms := hr.lt
  rw [if_neg (by simp [hr, hg]), if_pos ⟨hg, hr⟩, cal_of (netsOf_eq hg), cal_of (all_eq (by omega)), cal_of (maskOf_eq (fun v hv => by have := hr.mem hv; omega) hs), hnl, bv_andn (by omega), cal_of (oddParts_eq (by omega) (fun v h => nb_lt16 hg h) (by rw [hnl]; omega))]; rfl
end Go.Proofs.YtadjcnllmkdgiaaDoor

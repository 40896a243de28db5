/- Formulas: that the reference finds what a node says, and that the judge does. -/
import Derived.Test.YtjcnkijmbjhcnaaJudgeF
namespace Go.Proofs.Ytjcnkijmbjhcnaa
theorem lp_anyG {S α β : Type} {step : S → Option (S ⊕ (α ⊕ β))} (st : Nat → S) (n : Nat) (q : Nat → Bool) {j : α} {r : β} (h1 : ∀ i, i < n → q i = false → step (st i) = some (.inl (st (i + 1))))
    (h2 : ∀ i, i < n → q i = true → step (st i) = some (.inr (.inr r))) (h3 : step (st n) = some (.inr (.inl j))) : lp step (st 0) = some (if (List.range n).any q = true then .inr r else .inl j) := by
  obtain ⟨t1, t2⟩ := lp_all st n (fun i => q i = false) (oT := .inl j) (oF := .inr r) (fun i hi hq => h1 i hi hq) (fun i hi hq => h2 i hi (by simpa using hq)) h3
  cases e : (List.range n).any q with
  | false =>
    rw [if_neg (by simp)]
    exact t1 fun i hi => by
      have := List.any_eq_false.1 e i (List.mem_range.2 hi); simpa using this
  | true =>
    rw [if_pos rfl]
    obtain ⟨i, hi, hq⟩ := List.any_eq_true.1 e
    exact t2 ⟨i, List.mem_range.1 hi, by simp [hq]⟩
theorem l1CopyJ {l : List Int} (h : l.length ≤ 1048576) : F_spec_l1Copy l = some l := by
  unfold F_spec_l1Copy
  rw [app_s (by simp; omega)]; rfl
def way (v : Nat → Nat) (A i : Nat) : Nat → Nat := if i = 0 then v else updN v A (i - 1)
theorem way_upd (v : Nat → Nat) (A i : Nat) : way v A (i + 1) = updN v A i := by unfold way; rw [if_neg (by omega), show i + 1 - 1 = i by omega]
theorem way_set (v : Nat → Nat) (A i : Nat) : updN (way v A i) A i = way v A (i + 1) := by
  rw [way_upd]; unfold way
  split
  · rfl
  · exact updN_idem fun j hj => updN_ne hj
def v3 (v : Nat → Nat) : List Int := [((v 0 : Nat) : Int), ((v 1 : Nat) : Int), ((v 2 : Nat) : Int)]
def v2 (v : Nat → Nat) : List Int := [((v 0 : Nat) : Int), ((v 1 : Nat) : Int)]
theorem idx3' {β : Type} {g : Int → Option β} {A : Int} (v : Nat → Nat) (h0 : 0 ≤ A) (h2 : A ≤ 2) : idx (v3 v) A g = g ((v A.toNat : Nat) : Int) := idx3 v h0 h2
theorem idx2' {β : Type} {g : Int → Option β} {A : Int} (v : Nat → Nat) (h0 : 0 ≤ A) (h2 : A ≤ 1) : idx (v2 v) A g = g ((v A.toNat : Nat) : Int) := idx2 v h0 h2
theorem set3' {A : Int} (v : Nat → Nat) (i : Nat) (h0 : 0 ≤ A) (h2 : A ≤ 2) : (v3 (way v A.toNat i)).set A.toNat (i : Int) = v3 (way v A.toNat (i + 1)) := by
  rw [← way_set]; exact set3 _ i h0 h2
theorem set2' {A : Int} (v : Nat → Nat) (i : Nat) (h0 : 0 ≤ A) (h2 : A ≤ 1) : (v2 (way v A.toNat i)).set A.toNat (i : Int) = v2 (way v A.toNat (i + 1)) := by
  rw [← way_set]; exact set2 _ i h0 h2
theorem bit_dec {b : Bool} : decide ((if b = true then (1 : Int) else 0) = 1) = b := by cases b <;> rfl
theorem says_eq {a : List Nat} {f : List (Int × Int × Int)} (hf : formulaOk f = true) (ha : a.length ≤ 8) (hb : ∀ v (h : v < a.length), a[v] < 2 ^ 16) (k : Nat) (v s : Nat → Nat) (hk : k < f.length) (hr : InR a.length v s) :
    F_spec_l30Says (ints a) f (k : Int) (v3 v) (v2 s) = some (sat a f k v s) := by
  unfold F_spec_l30Says
  refine fixO_ind (J := Nat × (Nat → Nat) × (Nat → Nat)) (fun j => (ints a, f, (j.1 : Int), v3 j.2.1, v2 j.2.2)) (fun j => j.1) (fun j => sat a f j.1 j.2.1 j.2.2) (fun j => j.1 < f.length ∧ InR a.length j.2.1 j.2.2) (fun R j hj ih => ?_) (k, v, s) ⟨hk, hr⟩
  obtain ⟨k, v, s⟩ := j
  obtain ⟨hk, hr⟩ := hj
  simp only at hk hr ih ⊢
  have hlen := (formulaOk_iff.1 hf).1
  have hp : 2 ^ a.length ≤ 2 ^ 8 := Nat.pow_le_pow_right (by decide) ha
  have hp0 : 0 < 2 ^ a.length := Nat.two_pow_pos _
  obtain ⟨x, hx⟩ : ∃ x, f[k]? = some x := ⟨_, List.getElem?_eq_getElem hk⟩
  have call : ∀ (y : Int) (v' s' : Nat → Nat), 0 ≤ y → y ≤ k - 1 → InR a.length v' s' → R (ints a, f, y, v3 v', v2 s') = some (sat a f y.toNat v' s') := fun y v' s' h0 h1 hr' => by
    have := ih (y.toNat, v', s') ⟨by simp only; omega, hr'⟩ (by simp only; omega)
    simp only [Int.toNat_of_nonneg h0] at this
    exact this
  unfold F_spec_l30Says_body
  rw [idx_of (Int.natCast_nonneg _) (by rw [Int.toNat_natCast]; exact hx)]
  cases fk_all hf k x hx with
  | edge h a0 a1 b0 b1 =>
    have hv := hr.1 x.2.1.toNat
    rw [if_pos h, idx3' v a0 a1, idx_ints hv, idx3' v b0 b1, grd_of (Int.natCast_nonneg _), Int.toNat_natCast, bit_asked (by have := hb _ hv; omega), bit_dec, sat1 hx h, getD_getJ hv]
  | same h a0 a1 b0 b1 =>
    rw [if_neg (by omega), if_pos h, idx3' v a0 a1, idx3' v b0 b1, sat2 hx h]
    congr 1; rw [Bool.eq_iff_iff, decide_eq_true_iff, decide_eq_true_iff]; omega
  | isin h a0 a1 b0 b1 =>
    rw [if_neg (by omega), if_neg (by omega), if_pos h, idx2' s b0 b1, idx3' v a0 a1, grd_of (Int.natCast_nonneg _), Int.toNat_natCast, bit_asked (by have := hr.2 x.2.2.toNat; omega), bit_dec, sat3 hx h]
  | nott h a0 a1 =>
    rw [if_neg (by omega), if_neg (by omega), if_neg (by omega), if_pos h, cal_of (call _ v s a0 a1 hr), sat4 hx h (by omega)]
  | andd h a0 a1 b0 b1 =>
    rw [if_neg (by omega), if_neg (by omega), if_neg (by omega), if_neg (by omega), if_pos h, cal_of (call _ v s a0 a1 hr), cal_of (call _ v s b0 b1 hr), sat5 hx h (by omega) (by omega)]
    cases sat a f x.2.1.toNat v s <;> simp
  | orr h a0 a1 b0 b1 =>
    rw [if_neg (by omega), if_neg (by omega), if_neg (by omega), if_neg (by omega), if_neg (by omega), if_pos h, cal_of (call _ v s a0 a1 hr), cal_of (call _ v s b0 b1 hr), sat6 hx h (by omega) (by omega)]
    cases sat a f x.2.1.toNat v s <;> simp
  | ex h a0 a1 b0 b1 =>
    rw [if_neg (by omega), if_neg (by omega), if_neg (by omega), if_neg (by omega), if_neg (by omega), if_neg (by omega), if_pos h, cal_of (l1CopyJ (by simp [v3]))]
    have key := lp_anyG (step := fun t => F_spec_l30Says_l1 (ints a) f (v2 s) (fun z0 z1 z2 z3 z4 => R (z0, z1, z2, z3, z4)) x t.1 t.2) (fun i => (v3 (way v x.2.1.toNat i), (i : Int))) a.length (fun i => sat a f x.2.2.toNat (updN v x.2.1.toNat i) s) (j := ()) (r := true)
      (fun i hi hq => ?_) (fun i hi hq => ?_) ?_
    · rw [show lp _ ((fun i => (v3 (way v x.2.1.toNat i), ((i : Nat) : Int))) 0) = lp _ (v3 v, (0 : Int)) from rfl] at key
      rw [key, sat7 hx h (by omega)]
      cases (List.range a.length).any fun i => sat a f x.2.2.toNat (updN v x.2.1.toNat i) s <;> rfl
    all_goals simp only [F_spec_l30Says_l1]
    · rw [if_pos (by rw [ints_len]; omega), idx3' _ a0 a1, set3' v i a0 a1, way_upd, cal_of (call _ _ s b0 b1 (hr.v hi)), if_neg (by rw [hq]; simp), ck_of (inI (by omega) (by omega))]; rfl
    · rw [if_pos (by rw [ints_len]; omega), idx3' _ a0 a1, set3' v i a0 a1, way_upd, cal_of (call _ _ s b0 b1 (hr.v hi)), if_pos hq]
    · rw [if_neg (by rw [ints_len]; omega)]
  | exs h a0 a1 b0 b1 =>
    rw [if_neg (by omega), if_neg (by omega), if_neg (by omega), if_neg (by omega), if_neg (by omega), if_neg (by omega), if_neg (by omega), cal_of (l1CopyJ (by simp [v2]))]
    have key := lp_anyG (step := fun t => F_spec_l30Says_l3 (ints a) f (v3 v) (fun z0 z1 z2 z3 z4 => R (z0, z1, z2, z3, z4)) x t.1 t.2) (fun i => (v2 (way s x.2.1.toNat i), (i : Int))) (2 ^ a.length) (fun i => sat a f x.2.2.toNat v (updN s x.2.1.toNat i)) (j := ()) (r := true)
      (fun i hi hq => ?_) (fun i hi hq => ?_) ?_
    · rw [show lp _ ((fun i => (v2 (way s x.2.1.toNat i), ((i : Nat) : Int))) 0) = lp _ (v2 s, (0 : Int)) from rfl] at key
      rw [key, sat8 hx h (by omega)]
      cases (List.range (2 ^ a.length)).any fun i => sat a f x.2.2.toNat v (updN s x.2.1.toNat i) <;> rfl
    all_goals
      simp only [F_spec_l30Says_l3]
      rw [grd_of (Int.natCast_nonneg _), ints_len, Int.toNat_natCast, two_pow_nat, ck_of (inI_nat (by omega))]
    · rw [if_pos (by omega), idx2' _ a0 a1, set2' s i a0 a1, way_upd, cal_of (call _ v _ b0 b1 (hr.s hi)), if_neg (by rw [hq]; simp), ck_of (inI (by omega) (by omega))]; rfl
    · rw [if_pos (by omega), idx2' _ a0 a1, set2' s i a0 a1, way_upd, cal_of (call _ v _ b0 b1 (hr.s hi)), if_pos hq]
    · rw [if_neg (by omega)]
end Go.Proofs.Ytjcnkijmbjhcnaa

/- Plain lemmas on the combinators, for the laws in plain Lean. -/
import Derived.Test.YtnebbhginakaiaaPure
namespace Go.Proofs.Ytnebbhginakaiaa
section
variable {α β A S O : Type}
theorem inI {x : Int} (h1 : -9223372036854775808 ≤ x) (h2 : x ≤ 9223372036854775807) : InI x := ⟨h1, h2⟩
theorem ck_of {x : Int} {k : Int → Option β} (h : InI x) : ck x k = k x := by unfold ck; rw [if_pos h]
theorem idx_of {xs : List α} {i : Int} {k : α → Option β} {x : α} (h0 : 0 ≤ i) (h : xs[i.toNat]? = some x) : idx xs i k = k x := by
  unfold idx; rw [if_pos h0, h]
theorem idx_nat {xs : List α} {i : Nat} {k : α → Option β} (h : i < xs.length) : idx xs (i : Int) k = k xs[i] :=
  idx_of (Int.natCast_nonneg _) (by simp [h])
theorem app_of {xs ys : List α} {k : List α → Option β} (h : xs.length + ys.length ≤ lim) : app xs ys k = k (xs ++ ys) := by unfold app; rw [if_pos h]
theorem mkS_of {n : Int} {z : α} {k : List α → Option β} (h0 : 0 ≤ n) (h : n ≤ lim) : mkS n z k = k (List.replicate n.toNat z) := by unfold mkS; rw [if_pos ⟨h0, h⟩]
theorem slc_of {xs : List α} {i j : Int} {k : List α → Option β} (h : 0 ≤ i ∧ i ≤ j ∧ j ≤ xs.length) : slc xs i j k = k ((xs.drop i.toNat).take (j.toNat - i.toNat)) := by unfold slc; rw [if_pos h]
theorem grd_of {p : Prop} [Decidable p] {k : Option β} (h : p) : grd p k = k := by unfold grd; rw [if_pos h]
theorem cal_of {e : Option α} {k : α → Option β} {x : α} (h : e = some x) : cal e k = k x := by rw [h]; rfl
theorem bnd_l {e : Option (α ⊕ A)} {k : α → Option A} {j : α} (h : e = some (.inl j)) : bnd e k = k j := by rw [h]; rfl
theorem bnd_r {e : Option (α ⊕ A)} {k : α → Option A} {a : A} (h : e = some (.inr a)) : bnd e k = some a := by rw [h]; rfl
@[simp] theorem cal_some_eq (x : α) (k : α → Option β) : cal (some x) k = k x := rfl
@[simp] theorem bnd_inl_eq (j : α) (k : α → Option A) : bnd (some (.inl j)) k = k j := rfl
@[simp] theorem bnd_inr_eq (a : A) (k : α → Option A) : bnd (some (.inr a)) k = some a := rfl
theorem lp_up {step : S → Option (S ⊕ O)} (f : Nat → S) (m : Nat) {o : O} (h : ∀ k, k < m → step (f k) = some (.inl (f (k + 1)))) (he : step (f m) = some (.inr o)) : lp step (f 0) = some o := by
  have key : ∀ j k, k + j = m → lp step (f k) = some o := by
    intro j
    induction j with
    | zero => intro k hk; rw [lp_unfold, show k = m by omega, he]
    | succ j ih => intro k hk; rw [lp_unfold, h k (by omega)]; exact ih (k + 1) (by omega)
  exact key m 0 (by omega)
theorem lp_upto {step : S → Option (S ⊕ O)} (f : Nat → S) (m : Nat) {s : S} {o : O} (hs : s = f 0) (h : ∀ k, k < m → step (f k) = some (.inl (f (k + 1)))) (he : step (f m) = some (.inr o)) : lp step s = some o := by
  rw [hs]; exact lp_up f m h he
theorem inl_eq {s s' : S} (h : s = s') : (some (.inl s) : Option (S ⊕ O)) = some (.inl s') := by rw [h]
theorem pair_eq {a a' : α} {b b' : β} (h : a = a') (h' : b = b') : (a, b) = (a', b') := by rw [h, h']
theorem lp_all {step : S → Option (S ⊕ O)} (f : Nat → S) (n : Nat) (p : Nat → Prop) {oT oF : O} (h1 : ∀ k, k < n → p k → step (f k) = some (.inl (f (k + 1)))) (h2 : ∀ k, k < n → ¬ p k → step (f k) = some (.inr oF))
    (h3 : step (f n) = some (.inr oT)) : ((∀ k, k < n → p k) → lp step (f 0) = some oT) ∧ ((∃ k, k < n ∧ ¬ p k) → lp step (f 0) = some oF) := by
  refine ⟨fun h => lp_up f n (fun k hk => h1 k hk (h k hk)) h3, fun h => ?_⟩
  obtain ⟨m, ⟨hm, hp⟩, hl⟩ := least_of h
  refine lp_up f m (fun k hk => h1 k (by omega) ?_) (h2 m hm hp)
  exact Classical.byContradiction fun hn => by have := hl k ⟨by omega, hn⟩; omega
theorem lp_allB {step : S → Option (S ⊕ O)} (f : Nat → S) (n : Nat) (p : Nat → Prop) (b : Bool) {g : Bool → O} (hb : b = true ↔ ∀ k, k < n → p k) (h1 : ∀ k, k < n → p k → step (f k) = some (.inl (f (k + 1))))
    (h2 : ∀ k, k < n → ¬ p k → step (f k) = some (.inr (g false))) (h3 : step (f n) = some (.inr (g true))) : lp step (f 0) = some (g b) := by
  obtain ⟨ht, hf⟩ := lp_all f n p h1 h2 h3
  cases b with
  | true => exact ht (hb.1 rfl)
  | false =>
    refine hf (Classical.byContradiction fun hn => ?_)
    have : false = true := hb.2 fun k hk => Classical.byContradiction fun hp => hn ⟨k, hk, hp⟩
    cases this
theorem take_succ_of {xs : List α} {k : Nat} (h : k < xs.length) : xs.take (k + 1) = xs.take k ++ [xs[k]] := by
  rw [List.take_add_one, List.getElem?_eq_getElem h]; rfl
theorem ne_of_lt_idxOf {s : List Int} {c : Int} {k : Nat} (hk : k < s.idxOf c) (h : k < s.length) : s[k] ≠ c := by
  have := List.not_of_lt_findIdx (p := (· == c)) (xs := s) (i := k) hk
  simpa using this
theorem set_app {xs : List α} {pre post : List α} {k : Nat} {x y : α} (hx : xs = pre ++ y :: post) (hk : pre.length = k) : xs.set k x = pre ++ x :: post := by
  subst hx; subst hk; simp
end
end Go.Proofs.Ytnebbhginakaiaa

/- Loops that gather: over a list, over numbers; what simp takes to run straight code. -/
import Derived.Test.YtgikmgceiiahpaaDoorLib
namespace Go.Proofs.YtgikmgceiiahpaaDoor
section
variable {α β A S O : Type}
theorem ck_s {x : Int} {k : Int → Option β} (h1 : -9223372036854775808 ≤ x) (h2 : x ≤ 9223372036854775807) : ck x k = k x := ck_of ⟨h1, h2⟩
theorem app_s {xs ys : List α} {k : List α → Option β} (h : xs.length + ys.length ≤ 1099511627776) : app xs ys k = k (xs ++ ys) := app_of h
theorem app1_s {xs : List α} {y : α} {k : List α → Option β} (h : xs.length + 1 ≤ 1099511627776) : app xs [y] k = k (xs ++ [y]) := app_of (show xs.length + [y].length ≤ 1099511627776 from h)
theorem grd_s {p : Prop} [Decidable p] {k : Option β} (h : p) : grd p k = k := grd_of h
theorem if_s {p : Prop} [Decidable p] {x y : α} (h : p) : (if p then x else y) = x := if_pos h
theorem if_n {p : Prop} [Decidable p] {x y : α} (h : ¬ p) : (if p then x else y) = y := if_neg h
/-- over a list from its head -/
theorem lp_fold {step : A × Int → Option ((A × Int) ⊕ O)} (xs : List α) (f : A → α → A) (a0 : A) (p : A → Prop) {o : O} (h0 : p a0)
    (h : ∀ (k : Nat) (hk : k < xs.length) (a : A), p a → step (a, (k : Int)) = some (.inl (f a xs[k], ((k + 1 : Nat) : Int))) ∧ p (f a xs[k]))
    (he : ∀ a, a = xs.foldl f a0 → step (a, (xs.length : Int)) = some (.inr o)) : lp step (a0, 0) = some o := by
  have hp : ∀ k, k ≤ xs.length → p ((xs.take k).foldl f a0) := by
    intro k
    induction k with
    | zero => intro _; simpa using h0
    | succ k ih => intro hk; rw [take_succ_of (by omega), List.foldl_append]; exact (h k (by omega) _ (ih (by omega))).2
  refine lp_upto (fun k => ((xs.take k).foldl f a0, (k : Int))) xs.length (by simp) (fun k hk => ?_) ?_
  · have := (h k hk _ (hp k (by omega))).1
    rw [this]; rw [take_succ_of hk, List.foldl_append]; rfl
  · exact he _ (by rw [List.take_length])
/-- over the numbers below n -/
theorem lp_nums {step : A × Int → Option ((A × Int) ⊕ O)} (n : Nat) (f : Nat → A) {o : O}
    (h : ∀ (k : Nat), k < n → step (f k, (k : Int)) = some (.inl (f (k + 1), ((k + 1 : Nat) : Int)))) (he : step (f n, (n : Int)) = some (.inr o)) : lp step (f 0, 0) = some o :=
  lp_upto (fun k => (f k, (k : Int))) n rfl h he
/-- a list made out of another, element by element -/
theorem lp_map {step : List β × Int → Option ((List β × Int) ⊕ O)} (xs : List α) (f : α → β) {o : O}
    (h : ∀ (k : Nat) (hk : k < xs.length) (l : List β), l.length = k → step (l, (k : Int)) = some (.inl (l ++ [f xs[k]], ((k + 1 : Nat) : Int))))
    (he : step (xs.map f, (xs.length : Int)) = some (.inr o)) : lp step ([], 0) = some o := by
  refine lp_upto (fun k => ((xs.take k).map f, (k : Int))) xs.length (by simp) (fun k hk => ?_) ?_
  · rw [h k hk _ (by simp; omega), take_succ_of hk, List.map_append]; rfl
  · rw [List.take_length]; exact he
/-- a loop that looks for the first of a list -/
theorem lp_all_list {step : Int → Option (Int ⊕ O)} (xs : List α) (p : α → Bool) {oT oF : O}
    (h1 : ∀ (k : Nat) (hk : k < xs.length), p xs[k] = true → step (k : Int) = some (.inl ((k : Int) + 1))) (h2 : ∀ (k : Nat) (hk : k < xs.length), p xs[k] = false → step (k : Int) = some (.inr oF)) (he : step (xs.length : Int) = some (.inr oT)) :
    lp step 0 = some (if xs.all p = true then oT else oF) := by
  have hq : xs.all p = true ↔ ∀ k, k < xs.length → (∀ h : k < xs.length, p xs[k] = true) := by
    rw [List.all_eq_true]
    exact ⟨fun h k _ hk => h _ (List.getElem_mem hk), fun h x hx => by obtain ⟨k, hk, rfl⟩ := List.getElem_of_mem hx; exact h k hk hk⟩
  have := lp_allB (step := step) (fun k => (k : Int)) xs.length (fun k => ∀ h : k < xs.length, p xs[k] = true) (xs.all p) (g := fun t => if t then oT else oF) hq
    (fun k hk hp => by rw [h1 k hk (hp hk)]; rfl) (fun k hk hp => by
      rw [h2 k hk]; rfl
      cases e : p xs[k] with
      | false => rfl
      | true => exact absurd (fun _ => e) hp) he
  simpa using this
end
end Go.Proofs.YtgikmgceiiahpaaDoor

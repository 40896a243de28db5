/- Loops that gather: over a list, over numbers; what simp takes to run straight code. -/
import Derived.Test.YtjcnkijmbjhcnaaLib
namespace Go.Proofs.Ytjcnkijmbjhcnaa
section
variable {α β A S O : Type}
theorem app_s {xs ys : List α} {k : List α → Option β} (h : xs.length + ys.length ≤ 1099511627776) : app xs ys k = k (xs ++ ys) := app_of h
theorem app1_s {xs : List α} {y : α} {k : List α → Option β} (h : xs.length + 1 ≤ 1099511627776) : app xs [y] k = k (xs ++ [y]) := app_of (show xs.length + [y].length ≤ 1099511627776 from h)
theorem fixO_ind {J : Type} {F : (A → Option β) → A → Option β} (e : J → A) (μ : J → Nat) (val : J → β) (I : J → Prop) (h : ∀ R j, I j → (∀ j', I j' → μ j' < μ j → R (e j') = some (val j')) → F R (e j) = some (val j)) (j : J) (hj : I j) :
    fixO F (e j) = some (val j) := by
  have key : ∀ n j, μ j = n → I j → ∀ m, n + 1 ≤ m → itN F m (e j) = some (val j) := by
    intro n
    induction n using Nat.strongRecOn with
    | _ n ih =>
      intro j hn hI m hm
      obtain ⟨m, rfl⟩ : ∃ k, m = k + 1 := ⟨m - 1, by omega⟩
      rw [itN_succ]
      exact h _ j hI (fun j' hI' hlt => ih (μ j') (by omega) j' rfl hI' m (by omega))
  exact fixO_of (μ j + 1) (fun m hm => key _ j rfl hj m hm)
theorem lp_fold {step : A × Int → Option ((A × Int) ⊕ O)} (xs : List α) (f : A → α → A) (a0 : A) (p : A → Prop) {o : O} (h0 : p a0)
    (h : ∀ (k : Nat) (hk : k < xs.length) (a : A), p a → step (a, (k : Int)) = some (.inl (f a xs[k], ((k + 1 : Nat) : Int))) ∧ p (f a xs[k]))
    (he : ∀ a, a = xs.foldl f a0 → step (a, (xs.length : Int)) = some (.inr o)) : lp step (a0, 0) = some o := by
  have hp : ∀ k, k ≤ xs.length → p ((xs.take k).foldl f a0) := by
    intro k
    induction k with
    | zero => intro _; simpa using h0
    | succ k ih => intro hk; rw [take_succ_of (by omega), List.foldl_append]; exact (h k (by omega) _ (ih (by omega))).2
  refine lp_upto (fun k => ((xs.take k).foldl f a0, (k : Int))) xs.length (by simp) (fun k hk => ?_) ?_
  · have := (h k hk _ (hp k (by omega))).1
    rw [this]; rw [take_succ_of hk, List.foldl_append]; rfl
  · exact he _ (by rw [List.take_length])
theorem lp_map {step : List β × Int → Option ((List β × Int) ⊕ O)} (xs : List α) (f : α → β) {o : O}
    (h : ∀ (k : Nat) (hk : k < xs.length) (l : List β), l.length = k → step (l, (k : Int)) = some (.inl (l ++ [f xs[k]], ((k + 1 : Nat) : Int))))
    (he : step (xs.map f, (xs.length : Int)) = some (.inr o)) : lp step ([], 0) = some o := by
  refine lp_upto (fun k => ((xs.take k).map f, (k : Int))) xs.length (by simp) (fun k hk => ?_) ?_
  · rw [h k hk _ (by simp; omega), take_succ_of hk, List.map_append]; rfl
  · rw [List.take_length]; exact he
end
end Go.Proofs.Ytjcnkijmbjhcnaa

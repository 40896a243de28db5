/- Loops that gather: over a list, over numbers; what simp takes to run straight code. -/
import Derived.Test.YtnebbhginakaiaaLib
namespace Go.Proofs.Ytnebbhginakaiaa
section
variable {α β A S O : Type}
theorem app_s {xs ys : List α} {k : List α → Option β} (h : xs.length + ys.length ≤ 1099511627776) : app xs ys k = k (xs ++ ys) := app_of h
theorem app1_s {xs : List α} {y : α} {k : List α → Option β} (h : xs.length + 1 ≤ 1099511627776) : app xs [y] k = k (xs ++ [y]) := app_of (show xs.length + [y].length ≤ 1099511627776 from h)
theorem lp_fold {step : A × Int → Option ((A × Int) ⊕ O)} (xs : List α) (f : A → α → A) (a0 : A) (p : A → Prop) {o : O} (h0 : p a0)
    (h : ∀ (k : Nat) (hk : k < xs.length) (a : A), p a → step (a, (k : Int)) = some (.inl (f a xs[k], ((k + 1 : Nat) : Int))) ∧ p (f a xs[k]))
    (he : ∀ a, a = xs.foldl f a0 → step (a, (xs.length : Int)) = some (.inr o)) : lp step (a0, 0) = some o := by
  have hp : ∀ k, k ≤ xs.length → p ((xs.take k).foldl f a0) := by
    intro k
    induction k with
    | zero => intro _; simpa using h0
    | succ k ih => intro hk; rw [take_succ_of (by omega), List.foldl_append]; exact (h k (by omega) _ (ih (by omega))).2
  refine lp_upto (fun k => ((xs.take k).foldl f a0, (k : Int))) xs.length (by simp) (fun k hk => ?_) ?_
  · have := (h k hk _ (hp k (by omega))).1
    rw [this]; rw [take_succ_of hk, List.foldl_append]; rfl
  · exact he _ (by rw [List.take_length])
theorem lp_map {step : List β × Int → Option ((List β × Int) ⊕ O)} (xs : List α) (f : α → β) {o : O}
    (h : ∀ (k : Nat) (hk : k < xs.length) (l : List β), l.length = k → step (l, (k : Int)) = some (.inl (l ++ [f xs[k]], ((k + 1 : Nat) : Int))))
    (he : step (xs.map f, (xs.length : Int)) = some (.inr o)) : lp step ([], 0) = some o := by
  refine lp_upto (fun k => ((xs.take k).map f, (k : Int))) xs.length (by simp) (fun k hk => ?_) ?_
  · rw [h k hk _ (by simp; omega), take_succ_of hk, List.map_append]; rfl
  · rw [List.take_length]; exact he
theorem lp_allC {step : S → Option (S ⊕ O)} (f : Nat → S) (n : Nat) (p : Nat → Prop) (q : Prop) [Decidable q] {oT oF : O} (hq : q ↔ ∀ k, k < n → p k)
    (h1 : ∀ k, k < n → (∀ j, j < k → p j) → p k → step (f k) = some (.inl (f (k + 1)))) (h2 : ∀ k, k < n → (∀ j, j < k → p j) → ¬ p k → step (f k) = some (.inr oF))
    (h3 : (∀ k, k < n → p k) → step (f n) = some (.inr oT)) : lp step (f 0) = some (if q then oT else oF) := by
  by_cases h : q
  · rw [if_pos h]
    have ha := hq.1 h
    exact lp_up f n (fun k hk => h1 k hk (fun j hj => ha j (by omega)) (ha k hk)) (h3 ha)
  · rw [if_neg h]
    have hex : ∃ k, k < n ∧ ¬ p k := Classical.byContradiction fun hn => h (hq.2 fun k hk => Classical.byContradiction fun hp => hn ⟨k, hk, hp⟩)
    obtain ⟨m, ⟨hm, hp⟩, hl⟩ := least_of hex
    have hb : ∀ j, j < m → p j := fun j hj => Classical.byContradiction fun hn => by have := hl j ⟨by omega, hn⟩; omega
    exact lp_up f m (fun k hk => h1 k (by omega) (fun j hj => hb j (by omega)) (hb k hk)) (h2 m hm hb hp)
theorem lp_find {step : Int → Option (Int ⊕ (Unit ⊕ O))} (l : List α) (p : α → Bool) (f : Int → O) (h1 : ∀ (k : Nat) (hk : k < l.length), p l[k] = false → step (k : Int) = some (.inl ((k : Int) + 1)))
    (h2 : ∀ (k : Nat) (hk : k < l.length), p l[k] = true → step (k : Int) = some (.inr (.inr (f k)))) (h3 : step (l.length : Int) = some (.inr (.inl ()))) :
    lp step 0 = some (match l.findIdx? p with | some k => .inr (f (k : Int)) | none => .inl ()) := by
  cases e : l.findIdx? p with
  | none =>
    rw [List.findIdx?_eq_none_iff] at e
    refine lp_upto (fun k => (k : Int)) l.length (by simp) (fun k hk => ?_) h3
    rw [h1 k hk (e _ (List.getElem_mem hk))]; rfl
  | some k =>
    rw [List.findIdx?_eq_some_iff_getElem] at e
    obtain ⟨hk, hp, hb⟩ := e
    refine lp_upto (fun k => (k : Int)) k (by simp) (fun j hj => ?_) (h2 k hk hp)
    rw [h1 j (by omega) (by simpa using hb j hj)]; rfl
theorem find_any (l : List α) (p : α → Bool) : (match l.findIdx? p with | some k => some (decide ((0 : Int) ≤ (k : Int))) | none => some false) = some (l.any p) := by
  cases e : l.findIdx? p with
  | none =>
    rw [List.findIdx?_eq_none_iff] at e
    have : l.any p = false := by rw [List.any_eq_false]; intro x hx; simp [e x hx]
    rw [this]
  | some k =>
    rw [List.findIdx?_eq_some_iff_getElem] at e
    obtain ⟨hk, hp, _⟩ := e
    have : l.any p = true := List.any_eq_true.2 ⟨_, List.getElem_mem hk, hp⟩
    rw [this]; simp
end
end Go.Proofs.Ytnebbhginakaiaa

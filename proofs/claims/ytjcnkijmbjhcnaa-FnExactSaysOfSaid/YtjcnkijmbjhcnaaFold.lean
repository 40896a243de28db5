/- Loops that gather: over a list, over numbers; what simp takes to run straight code. -/
import Derived.Test.YtjcnkijmbjhcnaaLib
namespace Go.Proofs.Ytjcnkijmbjhcnaa
section
variable {α β A S O : Type}
theorem ck_s {x : Int} {k : Int → Option β} (h1 : -9223372036854775808 ≤ x) (h2 : x ≤ 9223372036854775807) : ck x k = k x := ck_of ⟨h1, h2⟩
theorem app_s {xs ys : List α} {k : List α → Option β} (h : xs.length + ys.length ≤ 1099511627776) : app xs ys k = k (xs ++ ys) := app_of h
theorem app1_s {xs : List α} {y : α} {k : List α → Option β} (h : xs.length + 1 ≤ 1099511627776) : app xs [y] k = k (xs ++ [y]) := app_of (show xs.length + [y].length ≤ 1099511627776 from h)
theorem grd_s {p : Prop} [Decidable p] {k : Option β} (h : p) : grd p k = k := grd_of h
theorem if_s {p : Prop} [Decidable p] {x y : α} (h : p) : (if p then x else y) = x := if_pos h
theorem if_n {p : Prop} [Decidable p] {x y : α} (h : ¬ p) : (if p then x else y) = y := if_neg h
/-- a recursion over what grows less -/
theorem fixO_ind {J : Type} {F : (A → Option β) → A → Option β} (e : J → A) (μ : J → Nat) (val : J → β) (I : J → Prop) (h : ∀ R j, I j → (∀ j', I j' → μ j' < μ j → R (e j') = some (val j')) → F R (e j) = some (val j)) (j : J) (hj : I j) :
    fixO F (e j) = some (val j) := by
  have key : ∀ n j, μ j = n → I j → ∀ m, n + 1 ≤ m → itN F m (e j) = some (val j) := by
    intro n
    induction n using Nat.strongRecOn with
    | _ n ih =>
      intro j hn hI m hm
      obtain ⟨m, rfl⟩ : ∃ k, m = k + 1 := ⟨m - 1, by omega⟩
      rw [itN_succ]
      exact h _ j hI (fun j' hI' hlt => ih (μ j') (by omega) j' rfl hI' m (by omega))
  exact fixO_of (μ j + 1) (fun m hm => key _ j rfl hj m hm)
/-- over a list from its head -/
theorem lp_fold {step : A × Int → Option ((A × Int) ⊕ O)} (xs : List α) (f : A → α → A) (a0 : A) (p : A → Prop) {o : O} (h0 : p a0)
    (h : ∀ (k : Nat) (hk : k < xs.length) (a : A), p a → step (a, (k : Int)) = some (.inl (f a xs[k], ((k + 1 : Nat) : Int))) ∧ p (f a xs[k]))
    (he : ∀ a, a = xs.foldl f a0 → step (a, (xs.length : Int)) = some (.inr o)) : lp step (a0, 0) = some o := by
  have hp : ∀ k, k ≤ xs.length → p ((xs.take k).foldl f a0) := by
    intro k
    induction k with
    | zero => intro _; simpa using h0
    | succ k ih => intro hk; rw [take_succ_of (by omega), List.foldl_append]; exact (h k (by omega) _ (ih (by omega))).2
  refine lp_upto (fun k => ((xs.take k).foldl f a0, (k : Int))) xs.length (by simp) (fun k hk => ?_) ?_
  · have := (h k hk _ (hp k (by omega))).1
    rw [this]; rw [take_succ_of hk, List.foldl_append]; rfl
  · exact he _ (by rw [List.take_length])
/-- over the numbers below n -/
theorem lp_nums {step : A × Int → Option ((A × Int) ⊕ O)} (n : Nat) (f : Nat → A) {o : O}
    (h : ∀ (k : Nat), k < n → step (f k, (k : Int)) = some (.inl (f (k + 1), ((k + 1 : Nat) : Int)))) (he : step (f n, (n : Int)) = some (.inr o)) : lp step (f 0, 0) = some o :=
  lp_upto (fun k => (f k, (k : Int))) n rfl h he
/-- a list made out of another, element by element -/
theorem lp_map {step : List β × Int → Option ((List β × Int) ⊕ O)} (xs : List α) (f : α → β) {o : O}
    (h : ∀ (k : Nat) (hk : k < xs.length) (l : List β), l.length = k → step (l, (k : Int)) = some (.inl (l ++ [f xs[k]], ((k + 1 : Nat) : Int))))
    (he : step (xs.map f, (xs.length : Int)) = some (.inr o)) : lp step ([], 0) = some o := by
  refine lp_upto (fun k => ((xs.take k).map f, (k : Int))) xs.length (by simp) (fun k hk => ?_) ?_
  · rw [h k hk _ (by simp; omega), take_succ_of hk, List.map_append]; rfl
  · rw [List.take_length]; exact he
/-- a loop that looks whether all are so, with a state that stands while they are -/
theorem lp_allC {step : S → Option (S ⊕ O)} (f : Nat → S) (n : Nat) (p : Nat → Prop) (q : Prop) [Decidable q] {oT oF : O} (hq : q ↔ ∀ k, k < n → p k)
    (h1 : ∀ k, k < n → (∀ j, j < k → p j) → p k → step (f k) = some (.inl (f (k + 1)))) (h2 : ∀ k, k < n → (∀ j, j < k → p j) → ¬ p k → step (f k) = some (.inr oF))
    (h3 : (∀ k, k < n → p k) → step (f n) = some (.inr oT)) : lp step (f 0) = some (if q then oT else oF) := by
  by_cases h : q
  · rw [if_pos h]
    have ha := hq.1 h
    exact lp_up f n (fun k hk => h1 k hk (fun j hj => ha j (by omega)) (ha k hk)) (h3 ha)
  · rw [if_neg h]
    have hex : ∃ k, k < n ∧ ¬ p k := Classical.byContradiction fun hn => h (hq.2 fun k hk => Classical.byContradiction fun hp => hn ⟨k, hk, hp⟩)
    obtain ⟨m, ⟨hm, hp⟩, hl⟩ := least_of hex
    have hb : ∀ j, j < m → p j := fun j hj => Classical.byContradiction fun hn => by have := hl j ⟨by omega, hn⟩; omega
    exact lp_up f m (fun k hk => h1 k (by omega) (fun j hj => hb j (by omega)) (hb k hk)) (h2 m hm hb hp)
/-- a loop that looks for the first of its kind -/
theorem lp_find {step : Int → Option (Int ⊕ (Unit ⊕ O))} (l : List α) (p : α → Bool) (f : Int → O) (h1 : ∀ (k : Nat) (hk : k < l.length), p l[k] = false → step (k : Int) = some (.inl ((k : Int) + 1)))
    (h2 : ∀ (k : Nat) (hk : k < l.length), p l[k] = true → step (k : Int) = some (.inr (.inr (f k)))) (h3 : step (l.length : Int) = some (.inr (.inl ()))) :
    lp step 0 = some (match l.findIdx? p with | some k => .inr (f (k : Int)) | none => .inl ()) := by
  cases e : l.findIdx? p with
  | none =>
    rw [List.findIdx?_eq_none_iff] at e
    refine lp_upto (fun k => (k : Int)) l.length (by simp) (fun k hk => ?_) h3
    rw [h1 k hk (e _ (List.getElem_mem hk))]; rfl
  | some k =>
    rw [List.findIdx?_eq_some_iff_getElem] at e
    obtain ⟨hk, hp, hb⟩ := e
    refine lp_upto (fun k => (k : Int)) k (by simp) (fun j hj => ?_) (h2 k hk hp)
    rw [h1 j (by omega) (by simpa using hb j hj)]; rfl
theorem find_any (l : List α) (p : α → Bool) : (match l.findIdx? p with | some k => some (decide ((0 : Int) ≤ (k : Int))) | none => some false) = some (l.any p) := by
  cases e : l.findIdx? p with
  | none =>
    rw [List.findIdx?_eq_none_iff] at e
    have : l.any p = false := by rw [List.any_eq_false]; intro x hx; simp [e x hx]
    rw [this]
  | some k =>
    rw [List.findIdx?_eq_some_iff_getElem] at e
    obtain ⟨hk, hp, _⟩ := e
    have : l.any p = true := List.any_eq_true.2 ⟨_, List.getElem_mem hk, hp⟩
    rw [this]; simp
/-- a loop that looks for the first of a list -/
theorem lp_all_list {step : Int → Option (Int ⊕ O)} (xs : List α) (p : α → Bool) {oT oF : O}
    (h1 : ∀ (k : Nat) (hk : k < xs.length), p xs[k] = true → step (k : Int) = some (.inl ((k : Int) + 1))) (h2 : ∀ (k : Nat) (hk : k < xs.length), p xs[k] = false → step (k : Int) = some (.inr oF)) (he : step (xs.length : Int) = some (.inr oT)) :
    lp step 0 = some (if xs.all p = true then oT else oF) := by
  have hq : xs.all p = true ↔ ∀ k, k < xs.length → (∀ h : k < xs.length, p xs[k] = true) := by
    rw [List.all_eq_true]
    exact ⟨fun h k _ hk => h _ (List.getElem_mem hk), fun h x hx => by obtain ⟨k, hk, rfl⟩ := List.getElem_of_mem hx; exact h k hk hk⟩
  have := lp_allB (step := step) (fun k => (k : Int)) xs.length (fun k => ∀ h : k < xs.length, p xs[k] = true) (xs.all p) (g := fun t => if t then oT else oF) hq
    (fun k hk hp => by rw [h1 k hk (hp hk)]; rfl) (fun k hk hp => by
      rw [h2 k hk]; rfl
      cases e : p xs[k] with
      | false => rfl
      | true => exact absurd (fun _ => e) hp) he
  simpa using this
end
end Go.Proofs.Ytjcnkijmbjhcnaa

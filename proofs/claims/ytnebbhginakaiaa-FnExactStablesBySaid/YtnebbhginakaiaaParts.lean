/- What is reached from a vertex among some, and the parts of some vertices. -/
import Derived.Test.YtnebbhginakaiaaCount
import Derived.Test.YtnebbhginakaiaaMatchCount
namespace Go.Proofs.Ytnebbhginakaiaa
section
variable {S O A : Type}
theorem lp_inl {step : S → Option (S ⊕ O)} {s s' : S} (h : step s = some (.inl s')) : lp step s = lp step s' := by rw [lp_unfold, h]
theorem lp_inr {step : S → Option (S ⊕ O)} {s : S} {o : O} (h : step s = some (.inr o)) : lp step s = some o := by rw [lp_unfold, h]
theorem lp_ex {step : S → Option (S ⊕ O)} (st : Nat → A → S) (n : Nat) (Inv : Nat → A → Prop) (Q : O → Prop) (h : ∀ k a, k < n → Inv k a → ∃ a', step (st k a) = some (.inl (st (k + 1) a')) ∧ Inv (k + 1) a')
    (he : ∀ a, Inv n a → ∃ o, step (st n a) = some (.inr o) ∧ Q o) : ∀ (m k : Nat) (a : A), k + m = n → Inv k a → ∃ o, lp step (st k a) = some o ∧ Q o
  | 0, k, a, hk, hi => by
    have e : k = n := by omega
    subst e
    obtain ⟨o, h1, h2⟩ := he a hi
    exact ⟨o, lp_inr h1, h2⟩
  | m + 1, k, a, hk, hi => by
    obtain ⟨a', h1, h2⟩ := h k a (by omega) hi
    obtain ⟨o, h3, h4⟩ := lp_ex st n Inv Q h he m (k + 1) a' (by omega) h2
    exact ⟨o, by rw [lp_inl h1, h3], h4⟩
end
def SubB (s t : Nat) : Prop := ∀ j, s.testBit j = true → t.testBit j = true
theorem SubB.refl (s : Nat) : SubB s s := fun _ h => h
theorem SubB.trans {s t u : Nat} (h : SubB s t) (h' : SubB t u) : SubB s u := fun j hj => h' j (h j hj)
theorem SubB.or {s t u : Nat} (h : SubB s u) (h' : SubB t u) : SubB (s ||| t) u := fun j hj => by
  rw [Nat.testBit_or, Bool.or_eq_true] at hj
  exact hj.elim (h j) (h' j)
end Go.Proofs.Ytnebbhginakaiaa

/- Loops of common kinds: over all elements, over two lists, copies. -/
import Derived.Test.YtnebbhginakaiaaLib
namespace Go.Proofs.Ytnebbhginakaiaa
section
variable {α β : Type}
def eqStep (eq : α → α → Option Bool) (a b : List α) (i : Int) : Option (Int ⊕ (Unit ⊕ Bool)) :=
  if i < (a.length : Int) then idx a i (fun x => idx b i (fun y => cal (eq x y) (fun t => if ¬ (t = true) then some (.inr (.inr false)) else ck (i + 1) (fun _ => some (.inl (i + 1))))))
  else some (.inr (.inl ()))
theorem eq_loop [DecidableEq α] {step : Int → Option (Int ⊕ (Unit ⊕ Bool))} (a b : List α) (eq : α → α → Option Bool) (hs : ∀ i, step i = eqStep eq a b i) (hl : a.length ≤ 1099511627776)
    (hq : ∀ x ∈ a, ∀ y ∈ b, eq x y = some (decide (x = y))) : (if (a.length : Int) ≠ (b.length : Int) then some false else bnd (lp step 0) (fun _ => some true)) = some (decide (a = b)) := by
  by_cases hlen : a.length = b.length
  · rw [if_neg (by omega)]
    have key := lp_allB (step := step) (fun k => (k : Int)) a.length (fun k => a[k]? = b[k]?) (decide (a = b)) (g := fun t => if t then .inl () else .inr false) ?_ ?_ ?_ ?_
    · simp only [Int.natCast_zero] at key
      by_cases e : a = b
      · rw [decide_eq_true e] at key ⊢; rw [bnd_l key]
      · rw [decide_eq_false e] at key ⊢; rw [bnd_r key]
    · simp only [decide_eq_true_eq]
      refine ⟨fun h k _ => by rw [h], fun h => List.ext_getElem? fun k => ?_⟩
      by_cases hk : k < a.length
      · exact h k hk
      · rw [List.getElem?_eq_none (by omega), List.getElem?_eq_none (by omega)]
    · intro k hk hp
      have hk' : k < b.length := by omega
      have hp : a[k] = b[k] := by simpa [hk, hk'] using hp
      rw [hs]; unfold eqStep
      rw [if_pos (by omega), idx_nat hk, idx_nat hk', cal_of (hq _ (List.getElem_mem _) _ (List.getElem_mem _)), if_neg (by simp [hp]), ck_of (inI (by omega) (by omega))]; rfl
    · intro k hk hp
      have hk' : k < b.length := by omega
      have hp : ¬ a[k] = b[k] := by simpa [hk, hk'] using hp
      rw [hs]; unfold eqStep
      rw [if_pos (by omega), idx_nat hk, idx_nat hk', cal_of (hq _ (List.getElem_mem _) _ (List.getElem_mem _)), if_pos (by simp [hp])]; rfl
    · rw [hs]; unfold eqStep; rw [if_neg (by omega)]; rfl
  · rw [if_pos (by omega)]
    have : a ≠ b := fun e => hlen (by rw [e])
    simp [this]
def eqIStep [DecidableEq α] (a b : List α) (i : Int) : Option (Int ⊕ (Unit ⊕ Bool)) :=
  if i < (a.length : Int) then idx a i (fun x => idx b i (fun y => if x ≠ y then some (.inr (.inr false)) else ck (i + 1) (fun _ => some (.inl (i + 1)))))
  else some (.inr (.inl ()))
theorem eqI_loop [DecidableEq α] {step : Int → Option (Int ⊕ (Unit ⊕ Bool))} (a b : List α) (hs : ∀ i, step i = eqIStep a b i) (hl : a.length ≤ 1099511627776) :
    (if (a.length : Int) ≠ (b.length : Int) then some false else bnd (lp step 0) (fun _ => some true)) = some (decide (a = b)) := by
  refine eq_loop a b (fun x y => some (decide (x = y))) (fun i => ?_) hl (fun _ _ _ _ => rfl)
  rw [hs]; unfold eqIStep eqStep
  simp
def copyStep (q : α → Option β) (a : List α) (s : List β × Int) : Option ((List β × Int) ⊕ (List β ⊕ List β)) :=
  if s.2 < (a.length : Int) then idx a s.2 (fun x => cal (q x) (fun y => idx s.1 s.2 (fun _ => ck (s.2 + 1) (fun _ => some (.inl (s.1.set s.2.toNat y, s.2 + 1))))))
  else some (.inr (.inl s.1))
theorem copy_loop {step : List β × Int → Option ((List β × Int) ⊕ (List β ⊕ List β))} (a : List α) (z : β) (q : α → Option β) (f : α → β) (hs : ∀ s, step s = copyStep q a s) (hl : a.length ≤ 1099511627776)
    (hq : ∀ x ∈ a, q x = some (f x)) : mkS (a.length : Int) z (fun _ => bnd (lp step (List.replicate (a.length : Int).toNat z, 0)) (fun j => some j)) = some (a.map f) := by
  rw [mkS_of (by omega) (by unfold lim; omega)]
  have hloop : lp step (List.replicate (a.length : Int).toNat z, 0) = some (.inl (a.map f)) := by
    refine lp_upto (fun k => ((a.take k).map f ++ List.replicate (a.length - k) z, (k : Int))) a.length (by simp) (fun k hk => ?_) ?_
    · rw [hs]; unfold copyStep
      simp only
      rw [if_pos (by omega), idx_nat hk, cal_of (hq _ (List.getElem_mem _)), idx_nat (by simp; omega), ck_of (inI (by omega) (by omega))]
      refine inl_eq (pair_eq ?_ (by omega))
      rw [take_succ_of hk, List.map_append]
      obtain ⟨m, hm⟩ : ∃ m, a.length - k = m + 1 := ⟨a.length - k - 1, by omega⟩
      rw [hm, List.replicate_succ, show a.length - (k + 1) = m by omega, Int.toNat_natCast, set_app rfl (by simp; omega), List.append_assoc]
      rfl
    · rw [hs]; unfold copyStep; simp only
      rw [if_neg (by omega)]; simp
  rw [bnd_l hloop]
end
end Go.Proofs.Ytnebbhginakaiaa

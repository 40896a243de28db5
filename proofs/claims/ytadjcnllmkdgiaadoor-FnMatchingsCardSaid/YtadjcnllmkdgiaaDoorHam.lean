/- Ways through a set of vertices: counted, and the least one. -/
import Derived.Test.YtadjcnllmkdgiaaDoorTab
import Derived.Test.YtadjcnllmkdgiaaDoorParts
import Derived.Test.YtadjcnllmkdgiaaDoorMatchCount
import Derived.Test.YtadjcnllmkdgiaaDoorSetF
namespace Go.Proofs.YtadjcnllmkdgiaaDoor
section
variable {A S O X : Type}
/-- a loop over the elements of a set of bits -/
theorem lp_near {step : S → Option (S ⊕ O)} (st : A → Nat → S) (f : A → Nat → A) (P : A → Nat → Prop) (o : A → O)
    (h1 : ∀ a x, x ≠ 0 → x < 2 ^ 16 → P a x → step (st a x) = some (.inl (st (f a (low x)) (x &&& (x - 1)))) ∧ P (f a (low x)) (x &&& (x - 1)))
    (h0 : ∀ a, P a 0 → step (st a 0) = some (.inr (o a))) : ∀ x, x < 2 ^ 16 → ∀ a, P a x → lp step (st a x) = some (o ((els x).foldl f a)) := by
  intro x
  induction x using Nat.strongRecOn with
  | _ x ih =>
    intro hx a hp
    by_cases e : x = 0
    · subst e; rw [lp_inr (h0 a hp), els_zero]; rfl
    · obtain ⟨s1, s2⟩ := h1 a x e hx hp
      have hlt := rest_lt e
      rw [lp_inl s1, ih _ hlt (by omega) _ s2, els_cons e hx]; rfl
/-- a loop that seeks the first element of its kind -/
theorem lp_seek {step : Int → Option (Int ⊕ (Int ⊕ X))} (c : Nat → Bool) (P : Nat → Prop) (h1 : ∀ x, x ≠ 0 → x < 2 ^ 16 → P x → c (low x) = false → step (x : Int) = some (.inl ((x &&& (x - 1) : Nat) : Int)) ∧ P (x &&& (x - 1)))
    (h2 : ∀ x, x ≠ 0 → x < 2 ^ 16 → P x → c (low x) = true → step (x : Int) = some (.inr (.inl (x : Int)))) (h0 : P 0 → step 0 = some (.inr (.inl 0))) : ∀ x, x < 2 ^ 16 → P x →
    ∃ y : Nat, lp step (x : Int) = some (.inl (y : Int)) ∧ y < 2 ^ 16 ∧ (((els x).find? c = none ∧ y = 0) ∨ ((els x).find? c = some (low y) ∧ y ≠ 0)) := by
  intro x
  induction x using Nat.strongRecOn with
  | _ x ih =>
    intro hx hp
    by_cases e : x = 0
    · subst e; exact ⟨0, lp_inr (h0 hp), by decide, .inl ⟨by rw [els_zero]; rfl, rfl⟩⟩
    · cases hc : c (low x) with
      | true => exact ⟨x, lp_inr (h2 x e hx hp hc), hx, .inr ⟨by rw [els_cons e hx, List.find?_cons, hc], e⟩⟩
      | false =>
        obtain ⟨s1, s2⟩ := h1 x e hx hp hc
        have hlt := rest_lt e
        obtain ⟨y, h3, h4, h5⟩ := ih _ hlt (by omega) s2
        refine ⟨y, by rw [lp_inl s1, h3], h4, ?_⟩
        rw [els_cons e hx, List.find?_cons, hc]; exact h5
end
def NF (a : List Nat) (last : Nat) : Nat → Nat → Nat → Nat
  | 0, _, v => if last.testBit v = true then 1 else 0
  | k + 1, r, v => ((els (a.getD v 0 &&& r)).map fun u => NF a last k (sdiff r (2 ^ u)) u).sum
/-- the ways from v through all of r to one of the last -/
def wayN (a : List Nat) (last r v : Nat) : Nat := NF a last (card r) r v
theorem wayN_zero (a : List Nat) (last v : Nat) : wayN a last 0 v = if last.testBit v = true then 1 else 0 := by unfold wayN; rw [card_zero]; rfl
theorem els_and {x r u : Nat} (hr : r < 2 ^ 16) (h : u ∈ els (x &&& r)) : x.testBit u = true ∧ r.testBit u = true := by
  have := els_bit h
  rwa [Nat.testBit_and, Bool.and_eq_true] at this
theorem wayN_step {a : List Nat} {last r v : Nat} (h : r ≠ 0) (hr : r < 2 ^ 16) : wayN a last r v = ((els (a.getD v 0 &&& r)).map fun u => wayN a last (sdiff r (2 ^ u)) u).sum := by
  have hp := card_pos h hr
  obtain ⟨k, hk⟩ : ∃ k, card r = k + 1 := ⟨card r - 1, by omega⟩
  unfold wayN
  rw [hk, NF]
  congr 1
  refine List.map_congr_left fun u hu => ?_
  have := card_del (els_and hr hu).2 hr
  rw [show card (sdiff r (2 ^ u)) = k by omega]
theorem sum_le : ∀ (l : List Nat) (b : Nat), (∀ x ∈ l, x ≤ b) → l.sum ≤ l.length * b
  | [], b, _ => by simp
  | x :: l, b, h => by
    have h1 := sum_le l b fun y hy => h y (List.mem_cons_of_mem _ hy)
    have h2 := h x (List.mem_cons_self ..)
    rw [List.sum_cons, List.length_cons, Nat.add_mul, Nat.one_mul]; omega
theorem wayN_le {a : List Nat} {last : Nat} : ∀ k r v, r < 2 ^ 16 → card r = k → wayN a last r v ≤ fact k
  | 0, r, v, hr, hk => by
    have : r = 0 := Classical.byContradiction fun h => by have := card_pos h hr; omega
    subst this
    rw [wayN_zero]; split <;> decide
  | k + 1, r, v, hr, hk => by
    have hne : r ≠ 0 := fun e => by rw [e, card_zero] at hk; omega
    rw [wayN_step hne hr]
    refine Nat.le_trans (sum_le _ (fact k) fun x hx => ?_) ?_
    · rw [List.mem_map] at hx
      obtain ⟨u, hu, rfl⟩ := hx
      have h1 := card_del (els_and hr hu).2 hr
      have h2 := sdiff_le r (2 ^ u)
      exact wayN_le k _ _ (by omega) (by omega)
    · rw [List.length_map]
      have : (els (a.getD v 0 &&& r)).length ≤ card r := card_mono fun j hj => by rw [Nat.testBit_and, Bool.and_eq_true] at hj; exact hj.2
      rw [hk] at this
      exact Nat.mul_le_mul_right _ this
theorem card_le16 (r : Nat) : card r ≤ 16 := els_len_le r
theorem wayN_small {a : List Nat} {last r v : Nat} (hr : r < 2 ^ 16) : wayN a last r v ≤ 20922789888000 := Nat.le_trans (wayN_le _ r v hr rfl) (fact16 (card_le16 r))
theorem sum_pos : ∀ {l : List Nat}, 0 < l.sum ↔ ∃ x ∈ l, 0 < x
  | [] => by simp
  | x :: l => by
    rw [List.sum_cons]
    constructor
    · intro h
      by_cases hx : 0 < x
      · exact ⟨x, List.mem_cons_self .., hx⟩
      · obtain ⟨y, h1, h2⟩ := sum_pos.1 (show 0 < l.sum by omega)
        exact ⟨y, List.mem_cons_of_mem _ h1, h2⟩
    · rintro ⟨y, h1, h2⟩
      rcases List.mem_cons.1 h1 with e | e
      · omega
      · have := sum_pos.2 ⟨y, e, h2⟩; omega
theorem wayN_pos {a : List Nat} {last r v : Nat} (h : r ≠ 0) (hr : r < 2 ^ 16) : 0 < wayN a last r v ↔ ∃ u ∈ els (a.getD v 0 &&& r), 0 < wayN a last (sdiff r (2 ^ u)) u := by
  rw [wayN_step h hr, sum_pos]
  constructor
  · rintro ⟨x, hx, h2⟩
    rw [List.mem_map] at hx
    obtain ⟨u, hu, rfl⟩ := hx
    exact ⟨u, hu, h2⟩
  · rintro ⟨u, hu, h2⟩
    exact ⟨_, List.mem_map.2 ⟨u, hu, rfl⟩, h2⟩
def PF (a : List Nat) (last : Nat) : Nat → Nat → Nat → List Nat
  | 0, _, _ => []
  | k + 1, r, v => match (els (a.getD v 0 &&& r)).find? (fun u => decide (0 < wayN a last (sdiff r (2 ^ u)) u)) with
    | some u => u :: PF a last k (sdiff r (2 ^ u)) u
    | none => []
/-- the least way on -/
def wayL (a : List Nat) (last r v : Nat) : List Nat := PF a last (card r) r v
theorem wayL_zero (a : List Nat) (last v : Nat) : wayL a last 0 v = [] := by unfold wayL; rw [card_zero]; rfl
theorem wayL_step {a : List Nat} {last r v u : Nat} (h : r ≠ 0) (hr : r < 2 ^ 16) (hf : (els (a.getD v 0 &&& r)).find? (fun u => decide (0 < wayN a last (sdiff r (2 ^ u)) u)) = some u) : wayL a last r v = u :: wayL a last (sdiff r (2 ^ u)) u := by
  have hp := card_pos h hr
  obtain ⟨k, hk⟩ : ∃ k, card r = k + 1 := ⟨card r - 1, by omega⟩
  have hu := List.mem_of_find?_eq_some hf
  have := card_del (els_and hr hu).2 hr
  unfold wayL
  rw [hk, PF, hf, show card (sdiff r (2 ^ u)) = k by omega]
theorem wayL_len {a : List Nat} {last : Nat} : ∀ k r v, (PF a last k r v).length ≤ k
  | 0, _, _ => Nat.le_refl _
  | k + 1, r, v => by
    unfold PF
    split
    · rw [List.length_cons]; have := wayL_len (a := a) (last := last) k (sdiff r (2 ^ ‹Nat›)) ‹Nat›; omega
    · simp
/-- there is a first one -/
theorem way_first {a : List Nat} {last r v : Nat} (h : r ≠ 0) (hr : r < 2 ^ 16) (hp : 0 < wayN a last r v) : ∃ u, (els (a.getD v 0 &&& r)).find? (fun u => decide (0 < wayN a last (sdiff r (2 ^ u)) u)) = some u ∧ (a.getD v 0).testBit u = true ∧ r.testBit u = true ∧ 0 < wayN a last (sdiff r (2 ^ u)) u := by
  obtain ⟨u, hu, h1⟩ := (wayN_pos h hr).1 hp
  cases e : (els (a.getD v 0 &&& r)).find? (fun u => decide (0 < wayN a last (sdiff r (2 ^ u)) u)) with
  | none => rw [List.find?_eq_none] at e; exact absurd (decide_eq_true h1) (e u hu)
  | some w =>
    have hm := els_and hr (List.mem_of_find?_eq_some e)
    have := List.find?_some e
    exact ⟨w, rfl, hm.1, hm.2, by simpa using this⟩
/-- the table's entries -/
def T28 (a : List Nat) (last s v : Nat) : Int := if s.testBit v = true then (wayN a last (sdiff s (2 ^ v)) v : Int) else 0
def row28 (a : List Nat) (last s : Nat) : List Int := (List.range a.length).map (T28 a last s)
def tab28 (a : List Nat) (last k : Nat) : List (List Int) := (List.range (2 ^ a.length)).map fun s => if 0 < s ∧ s < k then row28 a last s else []
section
variable {a : List Nat} {last : Nat}
theorem tab28_len (k : Nat) : (tab28 a last k).length = 2 ^ a.length := by unfold tab28; simp
theorem tab28_idx {β : Type} {k s : Nat} {q : List Int → Option β} (h0 : 0 < s) (h1 : s < k) (h2 : s < 2 ^ a.length) : idx (tab28 a last k) (s : Int) q = q (row28 a last s) := by
  rw [idx_nat (by rw [tab28_len]; exact h2)]
  unfold tab28
  simp only [List.getElem_map, List.getElem_range]
  rw [if_pos ⟨h0, h1⟩]
theorem row28_idx {β : Type} {s v : Nat} {q : Int → Option β} (h : v < a.length) : idx (row28 a last s) (v : Int) q = q (T28 a last s v) := by
  rw [idx_nat (by unfold row28; simp; exact h)]
  unfold row28
  simp
theorem tab28_set {k : Nat} (h0 : 0 < k) (hk : k < 2 ^ a.length) : (tab28 a last k).set k (row28 a last k) = tab28 a last (k + 1) := by
  unfold tab28
  apply List.ext_getElem
  · simp
  · intro s h1 h2
    simp only [List.length_map, List.length_range] at h2
    rw [List.getElem_set]
    simp only [List.getElem_map, List.getElem_range]
    by_cases e : k = s
    · subst e; rw [if_pos rfl, if_pos ⟨h0, by omega⟩]
    · rw [if_neg e]
      by_cases h3 : 0 < s ∧ s < k
      · rw [if_pos h3, if_pos ⟨h3.1, by omega⟩]
      · rw [if_neg h3, if_neg (fun h => h3 ⟨h.1, by omega⟩)]
/-- a row on its way -/
def rowAt (a : List Nat) (last k v : Nat) (y : Int) : List Int := (List.range a.length).map fun w => if w < v then T28 a last k w else if w = v then y else 0
theorem rowAt_len (k v : Nat) (y : Int) : (rowAt a last k v y).length = a.length := by unfold rowAt; simp
theorem rowAt_idx {β : Type} {k v : Nat} {y : Int} {q : Int → Option β} (h : v < a.length) : idx (rowAt a last k v y) (v : Int) q = q y := by
  rw [idx_nat (by rw [rowAt_len]; exact h)]
  unfold rowAt
  simp
theorem rowAt_set {k v : Nat} {y z : Int} (h : v < a.length) : (rowAt a last k v y).set v z = rowAt a last k v z := by
  unfold rowAt
  apply List.ext_getElem
  · simp
  · intro w h1 h2
    rw [List.getElem_set]
    simp only [List.getElem_map, List.getElem_range]
    by_cases e : v = w
    · subst e; rw [if_pos rfl, if_neg (by omega), if_pos rfl]
    · rw [if_neg e]
      by_cases e2 : w < v
      · rw [if_pos e2, if_pos e2]
      · rw [if_neg e2, if_neg e2, if_neg (fun h => e h.symm), if_neg (fun h => e h.symm)]
theorem rowAt_next {k v : Nat} (h : v < a.length) : rowAt a last k v (T28 a last k v) = rowAt a last k (v + 1) 0 := by
  unfold rowAt
  refine List.map_congr_left fun w hw => ?_
  by_cases e : w < v
  · rw [if_pos e, if_pos (by omega)]
  · rw [if_neg e]
    by_cases e2 : w = v
    · rw [if_pos e2, if_pos (by omega), e2]
    · rw [if_neg e2, if_neg (by omega)]; split <;> rfl
theorem rowAt_end (k : Nat) : rowAt a last k a.length 0 = row28 a last k := by
  unfold rowAt row28
  refine List.map_congr_left fun w hw => ?_
  rw [List.mem_range] at hw
  rw [if_pos hw]
theorem rowAt_zero (k : Nat) : rowAt a last k 0 0 = List.replicate a.length 0 := by
  unfold rowAt
  apply List.ext_getElem
  · simp
  · intro w h1 h2
    simp only [List.getElem_map, List.getElem_range, List.getElem_replicate]
    rw [if_neg (by omega)]; split <;> rfl
theorem cast_sum : ∀ (l : List Nat) (f : Nat → Nat) (y : Nat), l.foldl (fun (y : Nat) u => y + f u) y = y + (l.map f).sum
  | [], f, y => by simp
  | x :: l, f, y => by rw [List.foldl_cons, cast_sum l f, List.map_cons, List.sum_cons]; omega
/-- what the last ones are: all, or the neighbours of 0 -/
def LastIs (a : List Nat) (last : Nat) (round : Bool) : Prop := ∀ v (h : v < a.length), last.testBit v = if round = true then a[v].testBit 0 else true
end
end Go.Proofs.YtadjcnllmkdgiaaDoor

/- Rings: chords that cross. -/
import Derived.Test.YtadjcnllmkdgiaaDoorOrder
import Derived.Test.YtadjcnllmkdgiaaDoorMatch
import Derived.Test.YtadjcnllmkdgiaaDoorEdges
namespace Go.Proofs.YtadjcnllmkdgiaaDoor
theorem rset {n w : Nat} {f f' : Nat → Int} {y : Int} (hw : w < n) (h1 : f' w = y) (h2 : ∀ v, v ≠ w → f' v = f v) : ((List.range n).map f).set w y = (List.range n).map f' := by
  apply List.ext_getElem
  · simp
  · intro v h3 h4
    simp only [List.length_map, List.length_range] at h4
    rw [List.getElem_set]
    by_cases e : w = v
    · subst e; rw [if_pos rfl]; simp [h1]
    · rw [if_neg e]; simp [h2 v (fun h => e h.symm)]
theorem ridx {β : Type} {n w : Nat} {f : Nat → Int} {q : Int → Option β} (hw : w < n) : idx ((List.range n).map f) (w : Int) q = q (f w) := by
  rw [idx_nat (by simp; exact hw)]; simp
/-- where each vertex stands -/
def placesOf (n : Nat) (o : List Int) : List Int := (List.range n).map fun (v : Nat) => (o.idxOf (v : Int) : Int)
def placesTo (n : Nat) (o : List Int) (k : Nat) : List Int := (List.range n).map fun (v : Nat) => if (v : Int) ∈ o.take k then (o.idxOf (v : Int) : Int) else 0
theorem order_mem {n : Nat} {o : List Int} (h : IsOrder n o) {v : Nat} (hv : v < n) : (v : Int) ∈ o := by
  refine Classical.byContradiction fun hn => ?_
  have h1 : ((v : Int) :: o).Nodup := List.nodup_cons.2 ⟨hn, h.2.2⟩
  have h2 := nodup_len (n := n) h1 (fun x hx => by
    rcases List.mem_cons.1 hx with e | e
    · omega
    · exact h.2.1 x e)
  rw [List.length_cons, h.1] at h2
  omega
theorem placesTo_all {n : Nat} {o : List Int} (h : IsOrder n o) : placesTo n o o.length = placesOf n o := by
  unfold placesTo placesOf
  refine List.map_congr_left fun v hv => ?_
  rw [List.take_length, if_pos (order_mem h (List.mem_range.1 hv))]
theorem placesTo_zero (n : Nat) (o : List Int) : placesTo n o 0 = List.replicate n 0 := by
  unfold placesTo
  apply List.ext_getElem <;> simp
theorem placesTo_set {n : Nat} {o : List Int} (h : IsOrder n o) {k : Nat} (hk : k < o.length) : (placesTo n o k).set (o[k]).toNat (k : Int) = placesTo n o (k + 1) := by
  have hb := h.2.1 _ (List.getElem_mem hk)
  obtain ⟨w, hw⟩ := Int.eq_ofNat_of_zero_le hb.1
  unfold placesTo
  rw [hw, Int.toNat_natCast]
  refine rset (by omega) ?_ fun v hv => ?_
  · rw [if_pos (by rw [take_succ_of hk, hw]; simp), ← hw, h.2.2.idxOf_getElem k hk]
  · have : (v : Int) ∈ o.take (k + 1) ↔ (v : Int) ∈ o.take k := by
      rw [take_succ_of hk, List.mem_append, List.mem_singleton, hw]
      exact ⟨fun h => h.elim id fun e => absurd (by omega) hv, .inl⟩
    simp only [this]
theorem place_inj {n : Nat} {o : List Int} (h : IsOrder n o) {u v : Nat} (hu : u < n) (hv : v < n) : o.idxOf (u : Int) = o.idxOf (v : Int) ↔ u = v := by
  constructor
  · intro e
    have h1 := order_mem h hu
    have h2 := order_mem h hv
    have h3 := List.getElem_idxOf (List.idxOf_lt_length_of_mem h1)
    have h4 := List.getElem_idxOf (List.idxOf_lt_length_of_mem h2)
    simp only [e] at h3
    have h5 := h3.symm.trans h4
    omega
  · rintro rfl; rfl
/-- chords with ends x y and z w cross -/
def CrossP (x y z w : Int) : Prop := (min x y < min z w ∧ min z w < max x y ∧ max x y < max z w) ∨ (min z w < min x y ∧ min x y < max z w ∧ max z w < max x y)
def Crosses (o : List Int) (e f : List Int) : Prop := CrossP (o.idxOf (e.getD 0 0)) (o.idxOf (e.getD 1 0)) (o.idxOf (f.getD 0 0)) (o.idxOf (f.getD 1 0))
theorem min_if (a b : Int) : (if a < b then some a else some b) = some (min a b) := by split <;> (congr 1; omega)
theorem max_if (a b : Int) : (if b < a then some a else some b) = some (max a b) := by split <;> (congr 1; omega)
/-- an edge as one of the graph's: its two ends -/
def Pair (n : Nat) (e : List Int) : Prop := ∃ a b : Nat, e = [(a : Int), (b : Int)] ∧ a < b ∧ b < n
theorem EdgeOk.pair {g : List (List Int)} (hg : GOk g) {e : List Int} (h : EdgeOk g e) : Pair g.length e := by
  obtain ⟨x, y, rfl, h1, hx, h2⟩ := h.two
  have := hg.row_mem hx h2
  exact ⟨x, y, rfl, h1, by omega⟩
theorem edges_pair {g : List (List Int)} (hg : GOk g) {e : List Int} (h : e ∈ edges g) : Pair g.length e := by
  unfold edges at h
  rw [List.mem_flatMap] at h
  obtain ⟨u, hu, h⟩ := h
  rw [List.mem_range] at hu
  rw [List.mem_map] at h
  obtain ⟨w, hw, rfl⟩ := h
  rw [List.mem_filter, decide_eq_true_iff, show g.getD u [] = g[u] by simp [hu]] at hw
  have := hg.row_mem hu hw.1
  obtain ⟨v, rfl⟩ := Int.eq_ofNat_of_zero_le this.1
  exact ⟨u, v, rfl, by omega, by omega⟩
theorem edges_len256 {g : List (List Int)} (hg : GOk g) : (edges g).length ≤ 256 := by
  have := edges_part hg g.length (Nat.le_refl _)
  have := hg.n16
  unfold edges; omega
open Classical in
/-- how many of the first k cross the i-th -/
noncomputable def cross1 (o : List Int) (E : List (List Int)) (i k : Nat) : Nat := ((List.range k).filter fun j => decide (Crosses o (E.getD i []) (E.getD j []))).length
noncomputable def crossN (o : List Int) (E : List (List Int)) : Nat → Nat
  | 0 => 0
  | i + 1 => crossN o E i + cross1 o E i i
theorem cross1_le (o : List Int) (E : List (List Int)) (i k : Nat) : cross1 o E i k ≤ k := by unfold cross1; exact Nat.le_trans (List.length_filter_le ..) (by simp)
theorem crossN_le (o : List Int) (E : List (List Int)) : ∀ i, crossN o E i ≤ i * i
  | 0 => Nat.le_refl _
  | i + 1 => by
    have h1 := crossN_le o E i
    have h2 := cross1_le o E i i
    show crossN o E i + cross1 o E i i ≤ _
    rw [Nat.add_mul, Nat.one_mul, Nat.mul_add, Nat.mul_one]; omega
theorem crossN_zero (o : List Int) (E : List (List Int)) (i : Nat) : cross1 o E i 0 = 0 := by unfold cross1; simp
theorem crossN_succ (o : List Int) (E : List (List Int)) (i : Nat) : crossN o E (i + 1) = crossN o E i + cross1 o E i i := rfl
open Classical in
theorem cross1_succ (o : List Int) (E : List (List Int)) (i k : Nat) : cross1 o E i (k + 1) = cross1 o E i k + if Crosses o (E.getD i []) (E.getD k []) then 1 else 0 := by
  unfold cross1
  rw [List.range_succ, List.filter_append, List.length_append]
  congr 1
  split
  · rename_i h; rw [List.filter_cons, if_pos (by rw [decide_eq_true_iff]; exact h)]; rfl
  · rename_i h; rw [List.filter_cons, if_neg (by rw [decide_eq_true_iff]; exact h)]; rfl
/-- the number of pairs that cross -/
noncomputable def crossings (o : List Int) (E : List (List Int)) : Nat := crossN o E E.length
section
variable {n : Nat} {o : List Int} {E : List (List Int)}
end
end Go.Proofs.YtadjcnllmkdgiaaDoor

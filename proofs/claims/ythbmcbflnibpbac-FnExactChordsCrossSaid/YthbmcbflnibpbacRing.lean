/- Rings: chords that cross. -/
import Derived.Test.YthbmcbflnibpbacOrder
import Derived.Test.YthbmcbflnibpbacMatch
import Derived.Test.YthbmcbflnibpbacEdges
namespace Go.Proofs.Ythbmcbflnibpbac
theorem rset {n w : Nat} {f f' : Nat → Int} {y : Int} (hw : w < n) (h1 : f' w = y) (h2 : ∀ v, v ≠ w → f' v = f v) : ((List.range n).map f).set w y = (List.range n).map f' := by
  apply List.ext_getElem
  · simp
  · intro v h3 h4
    simp only [List.length_map, List.length_range] at h4
    rw [List.getElem_set]
    by_cases e : w = v
    · subst e; rw [if_pos rfl]; simp [h1]
    · rw [if_neg e]; simp [h2 v (fun h => e h.symm)]
theorem ridx {β : Type} {n w : Nat} {f : Nat → Int} {q : Int → Option β} (hw : w < n) : idx ((List.range n).map f) (w : Int) q = q (f w) := by
  rw [idx_nat (by simp; exact hw)]; simp
/-- where each vertex stands -/
def placesOf (n : Nat) (o : List Int) : List Int := (List.range n).map fun (v : Nat) => (o.idxOf (v : Int) : Int)
def placesTo (n : Nat) (o : List Int) (k : Nat) : List Int := (List.range n).map fun (v : Nat) => if (v : Int) ∈ o.take k then (o.idxOf (v : Int) : Int) else 0
theorem order_mem {n : Nat} {o : List Int} (h : IsOrder n o) {v : Nat} (hv : v < n) : (v : Int) ∈ o := by
  refine Classical.byContradiction fun hn => ?_
  have h1 : ((v : Int) :: o).Nodup := List.nodup_cons.2 ⟨hn, h.2.2⟩
  have h2 := nodup_len (n := n) h1 (fun x hx => by
    rcases List.mem_cons.1 hx with e | e
    · omega
    · exact h.2.1 x e)
  rw [List.length_cons, h.1] at h2
  omega
theorem placesTo_all {n : Nat} {o : List Int} (h : IsOrder n o) : placesTo n o o.length = placesOf n o := by
  unfold placesTo placesOf
  refine List.map_congr_left fun v hv => ?_
  rw [List.take_length, if_pos (order_mem h (List.mem_range.1 hv))]
theorem placesTo_zero (n : Nat) (o : List Int) : placesTo n o 0 = List.replicate n 0 := by
  unfold placesTo
  apply List.ext_getElem <;> simp
theorem placesTo_set {n : Nat} {o : List Int} (h : IsOrder n o) {k : Nat} (hk : k < o.length) : (placesTo n o k).set (o[k]).toNat (k : Int) = placesTo n o (k + 1) := by
  have hb := h.2.1 _ (List.getElem_mem hk)
  obtain ⟨w, hw⟩ := Int.eq_ofNat_of_zero_le hb.1
  unfold placesTo
  rw [hw, Int.toNat_natCast]
  refine rset (by omega) ?_ fun v hv => ?_
  · rw [if_pos (by rw [take_succ_of hk, hw]; simp), ← hw, h.2.2.idxOf_getElem k hk]
  · have : (v : Int) ∈ o.take (k + 1) ↔ (v : Int) ∈ o.take k := by
      rw [take_succ_of hk, List.mem_append, List.mem_singleton, hw]
      exact ⟨fun h => h.elim id fun e => absurd (by omega) hv, .inl⟩
    simp only [this]
theorem place_inj {n : Nat} {o : List Int} (h : IsOrder n o) {u v : Nat} (hu : u < n) (hv : v < n) : o.idxOf (u : Int) = o.idxOf (v : Int) ↔ u = v := by
  constructor
  · intro e
    have h1 := order_mem h hu
    have h2 := order_mem h hv
    have h3 := List.getElem_idxOf (List.idxOf_lt_length_of_mem h1)
    have h4 := List.getElem_idxOf (List.idxOf_lt_length_of_mem h2)
    simp only [e] at h3
    have h5 := h3.symm.trans h4
    omega
  · rintro rfl; rfl
theorem l24Places_eq {n : Nat} {o : List Int} (h : IsOrder n o) (hn : n ≤ 16) : F_spec_l24Places o = some (placesOf n o) := by
  unfold F_spec_l24Places
  have hl := h.1
  have key : lp (fun s => F_spec_l24Places_l1 o s.1 s.2) (List.replicate n (0 : Int), 0) = some (.inl (placesOf n o)) := by
    refine lp_upto (fun k => (placesTo n o k, (k : Int))) o.length (by rw [placesTo_zero]; rfl) (fun k hk => ?_) ?_
    · have hb := h.2.1 _ (List.getElem_mem hk)
      obtain ⟨w, hw⟩ := Int.eq_ofNat_of_zero_le hb.1
      have hs := placesTo_set h hk
      simp only [F_spec_l24Places_l1]
      rw [if_pos (by omega), idx_nat hk, ← hs]
      unfold placesTo
      rw [hw, ridx (by omega), ck_of (inI (by omega) (by omega))]; rfl
    · simp only [F_spec_l24Places_l1]
      rw [if_neg (by omega), placesTo_all h]
  rw [mkS_of (by omega) (by unfold lim; omega), hl, Int.toNat_natCast, bnd_l key]; rfl
theorem placesIn_eq {n : Nat} {o : List Int} (h : IsOrder n o) (h1 : 1 ≤ n) (hn : n ≤ 16) : F_impl_placesIn o = some (placesOf n o, true) := by
  unfold F_impl_placesIn F_slices_Values_int64
  have hl := h.1
  have key : lp (fun s => F_impl_placesIn_l1 o s.1 s.2) (List.replicate n (0 : Int), 0) = some (.inl (placesOf n o)) := by
    refine lp_upto (fun k => (placesTo n o k, (k : Int))) o.length (by rw [placesTo_zero]; rfl) (fun k hk => ?_) ?_
    · have hb := h.2.1 _ (List.getElem_mem hk)
      obtain ⟨w, hw⟩ := Int.eq_ofNat_of_zero_le hb.1
      have hs := placesTo_set h hk
      simp only [F_impl_placesIn_l1]
      rw [if_pos (by omega), idx_nat hk, ← hs]
      unfold placesTo
      rw [hw, ridx (by omega), ck_of (inI (by omega) (by omega))]; rfl
    · simp only [F_impl_placesIn_l1]
      rw [if_neg (by omega), placesTo_all h]
  have hr : Rises (srt o) n := rises_srt.2 h.2
  rw [if_neg (by omega), if_neg (by omega), cal_some_eq, cal_of (sorted_eq (by omega)), hl, cal_of (increasing_eq _ _ (by rw [srt_len]; omega) (by omega) (by omega)), if_neg (by simpa using hr), mkS_of (by omega) (by unfold lim; omega), Int.toNat_natCast, bnd_l key]; rfl
/-- chords with ends x y and z w cross -/
def CrossP (x y z w : Int) : Prop := (min x y < min z w ∧ min z w < max x y ∧ max x y < max z w) ∨ (min z w < min x y ∧ min x y < max z w ∧ max z w < max x y)
def Crosses (o : List Int) (e f : List Int) : Prop := CrossP (o.idxOf (e.getD 0 0)) (o.idxOf (e.getD 1 0)) (o.idxOf (f.getD 0 0)) (o.idxOf (f.getD 1 0))
theorem min_if (a b : Int) : (if a < b then some a else some b) = some (min a b) := by split <;> (congr 1; omega)
theorem max_if (a b : Int) : (if b < a then some a else some b) = some (max a b) := by split <;> (congr 1; omega)
/-- an edge as one of the graph's: its two ends -/
def Pair (n : Nat) (e : List Int) : Prop := ∃ a b : Nat, e = [(a : Int), (b : Int)] ∧ a < b ∧ b < n
open Classical in
theorem l24Cross_eq {n : Nat} {o : List Int} (h : IsOrder n o) {e f : List Int} (he : Pair n e) (hf : Pair n f) : F_spec_l24Cross (placesOf n o) e f = some (decide (Crosses o e f)) := by
  obtain ⟨a, b, rfl, hab, hb⟩ := he
  obtain ⟨c, d, rfl, hcd, hd⟩ := hf
  have P : ∀ {β : Type} (v : Nat) (hv : v < n) (q : Int → Option β), idx (placesOf n o) (v : Int) q = q (o.idxOf (v : Int)) := fun v hv q => by unfold placesOf; exact ridx hv
  have i0 : ∀ {β : Type} (x y : Int) (k : Int → Option β), idx [x, y] 0 k = k x := fun x y k => idx_of (by decide) rfl
  have i1 : ∀ {β : Type} (x y : Int) (k : Int → Option β), idx [x, y] 1 k = k y := fun x y k => idx_of (by decide) rfl
  have ha : a < n := by omega
  have hc : c < n := by omega
  unfold F_spec_l24Cross F_spec_l1Min F_spec_l1Max
  simp only [i0, i1, P a ha, P b hb, P c hc, P d hd, min_if, max_if, cal_some_eq]
  unfold Crosses CrossP
  simp only [List.getD_cons_zero, List.getD_cons_succ]
  generalize (o.idxOf (a : Int) : Int) = x
  generalize (o.idxOf (b : Int) : Int) = y
  generalize (o.idxOf (c : Int) : Int) = z
  generalize (o.idxOf (d : Int) : Int) = w
  repeat' split
  all_goals (congr 1; symm; first | (rw [decide_eq_true_iff]; omega) | (rw [decide_eq_false_iff_not]; omega) | (rw [decide_eq_decide]; omega))
open Classical in
theorem alternate_eq {n : Nat} {o : List Int} (h : IsOrder n o) {e f : List Int} (he : Pair n e) (hf : Pair n f) : F_impl_alternate (placesOf n o) e f = some (decide (Crosses o e f)) := by
  obtain ⟨a, b, rfl, hab, hb⟩ := he
  obtain ⟨c, d, rfl, hcd, hd⟩ := hf
  have P : ∀ {β : Type} (v : Nat) (hv : v < n) (q : Int → Option β), idx (placesOf n o) (v : Int) q = q (o.idxOf (v : Int)) := fun v hv q => by unfold placesOf; exact ridx hv
  have i0 : ∀ {β : Type} (x y : Int) (k : Int → Option β), idx [x, y] 0 k = k x := fun x y k => idx_of (by decide) rfl
  have i1 : ∀ {β : Type} (x y : Int) (k : Int → Option β), idx [x, y] 1 k = k y := fun x y k => idx_of (by decide) rfl
  have ha : a < n := by omega
  have hc : c < n := by omega
  have B : ∀ (v : Nat) (hv : v < n) (s t : Int), F_impl_alternate_1 (v : Int) s (placesOf n o) t = some (decide (s < (o.idxOf (v : Int) : Int) ∧ (o.idxOf (v : Int) : Int) < t)) := by
    intro v hv s t
    unfold F_impl_alternate_1
    rw [P v hv]
    by_cases h1 : s < (o.idxOf (v : Int) : Int)
    · rw [if_pos h1, P v hv]; simp [h1]
    · rw [if_neg h1]; simp [h1]
  have n1 := place_inj h ha hb
  have n2 := place_inj h hc hd
  have m1 := place_inj h ha hc
  have m2 := place_inj h ha hd
  have m3 := place_inj h hb hc
  have m4 := place_inj h hb hd
  unfold F_impl_alternate
  simp only [i0, i1, P a ha, P b hb, B c hc, B d hd, cal_some_eq]
  unfold Crosses CrossP
  simp only [List.getD_cons_zero, List.getD_cons_succ]
  generalize o.idxOf (a : Int) = x at *
  generalize o.idxOf (b : Int) = y at *
  generalize o.idxOf (c : Int) = z at *
  generalize o.idxOf (d : Int) = w at *
  by_cases p1 : a = c
  · rw [if_neg (by omega)]; congr 1; symm; rw [decide_eq_false_iff_not]; have := m1.2 p1; omega
  rw [if_pos (by omega)]
  by_cases p2 : a = d
  · rw [if_neg (by omega)]; congr 1; symm; rw [decide_eq_false_iff_not]; have := m2.2 p2; omega
  rw [if_pos (by omega)]
  by_cases p3 : b = c
  · rw [if_neg (by omega)]; congr 1; symm; rw [decide_eq_false_iff_not]; have := m3.2 p3; omega
  rw [if_pos (by omega)]
  by_cases p4 : b = d
  · rw [if_neg (by omega)]; congr 1; symm; rw [decide_eq_false_iff_not]; have := m4.2 p4; omega
  rw [if_pos (by omega)]
  have q0 : x ≠ y := fun e => by have := n1.1 e; omega
  have q1 : z ≠ w := fun e => by have := n2.1 e; omega
  have q2 : x ≠ z := fun e => p1 (m1.1 e)
  have q3 : x ≠ w := fun e => p2 (m2.1 e)
  have q4 : y ≠ z := fun e => p3 (m3.1 e)
  have q5 : y ≠ w := fun e => p4 (m4.1 e)
  clear n1 n2 m1 m2 m3 m4 P B i0 i1
  congr 1
  rw [Bool.eq_iff_iff, decide_eq_true_iff]
  by_cases r1 : min (x : Int) y < z ∧ (z : Int) < max (x : Int) y
  · by_cases r2 : min (x : Int) y < w ∧ (w : Int) < max (x : Int) y
    · rw [decide_eq_true r1, decide_eq_true r2]; simp only [bne_self_eq_false, Bool.false_eq_true, false_iff]; omega
    · rw [decide_eq_true r1, decide_eq_false r2]; simp only [bne_iff_ne, ne_eq, Bool.true_eq_false, not_false_eq_true, true_iff]; omega
  · by_cases r2 : min (x : Int) y < w ∧ (w : Int) < max (x : Int) y
    · rw [decide_eq_false r1, decide_eq_true r2]; simp only [bne_iff_ne, ne_eq, Bool.false_eq_true, not_false_eq_true, true_iff]; omega
    · rw [decide_eq_false r1, decide_eq_false r2]; simp only [bne_self_eq_false, Bool.false_eq_true, false_iff]; omega
theorem EdgeOk.pair {g : List (List Int)} (hg : GOk g) {e : List Int} (h : EdgeOk g e) : Pair g.length e := by
  obtain ⟨x, y, rfl, h1, hx, h2⟩ := h.two
  have := hg.row_mem hx h2
  exact ⟨x, y, rfl, h1, by omega⟩
open Classical in
theorem l24Edge_eq {g : List (List Int)} (hg : GOk g) (hl : ∀ x ∈ g, x.length ≤ 1048576) (e : List Int) : F_spec_l24Edge g e = some (decide (EdgeOk g e)) := by
  unfold F_spec_l24Edge EdgeOk
  by_cases h2 : e.length = 2
  case neg => rw [if_neg (by omega)]; simp [h2]
  rw [if_pos (by omega)]
  match e, h2 with
  | [a, b], _ =>
    have i0 : ∀ {β : Type} (k : Int → Option β), idx [a, b] 0 k = k a := fun k => idx_of (by decide) rfl
    have i1 : ∀ {β : Type} (k : Int → Option β), idx [a, b] 1 k = k b := fun k => idx_of (by decide) rfl
    rw [i0, i1]
    by_cases hab : a < b
    case neg => rw [if_neg hab]; simp [hab]
    rw [if_pos hab, i0, i1, cal_of (specEdgeIn_eq hg hl a b)]
    congr 1
    rw [decide_eq_decide]
    simp [hab]
theorem edges_pair {g : List (List Int)} (hg : GOk g) {e : List Int} (h : e ∈ edges g) : Pair g.length e := by
  unfold edges at h
  rw [List.mem_flatMap] at h
  obtain ⟨u, hu, h⟩ := h
  rw [List.mem_range] at hu
  rw [List.mem_map] at h
  obtain ⟨w, hw, rfl⟩ := h
  rw [List.mem_filter, decide_eq_true_iff, show g.getD u [] = g[u] by simp [hu]] at hw
  have := hg.row_mem hu hw.1
  obtain ⟨v, rfl⟩ := Int.eq_ofNat_of_zero_le this.1
  exact ⟨u, v, rfl, by omega, by omega⟩
theorem edges_len256 {g : List (List Int)} (hg : GOk g) : (edges g).length ≤ 256 := by
  have := edges_part hg g.length (Nat.le_refl _)
  have := hg.n16
  unfold edges; omega
open Classical in
/-- how many of the first k cross the i-th -/
noncomputable def cross1 (o : List Int) (E : List (List Int)) (i k : Nat) : Nat := ((List.range k).filter fun j => decide (Crosses o (E.getD i []) (E.getD j []))).length
noncomputable def crossN (o : List Int) (E : List (List Int)) : Nat → Nat
  | 0 => 0
  | i + 1 => crossN o E i + cross1 o E i i
theorem cross1_le (o : List Int) (E : List (List Int)) (i k : Nat) : cross1 o E i k ≤ k := by unfold cross1; exact Nat.le_trans (List.length_filter_le ..) (by simp)
theorem crossN_le (o : List Int) (E : List (List Int)) : ∀ i, crossN o E i ≤ i * i
  | 0 => Nat.le_refl _
  | i + 1 => by
    have h1 := crossN_le o E i
    have h2 := cross1_le o E i i
    show crossN o E i + cross1 o E i i ≤ _
    rw [Nat.add_mul, Nat.one_mul, Nat.mul_add, Nat.mul_one]; omega
theorem crossN_zero (o : List Int) (E : List (List Int)) (i : Nat) : cross1 o E i 0 = 0 := by unfold cross1; simp
theorem crossN_succ (o : List Int) (E : List (List Int)) (i : Nat) : crossN o E (i + 1) = crossN o E i + cross1 o E i i := rfl
open Classical in
theorem cross1_succ (o : List Int) (E : List (List Int)) (i k : Nat) : cross1 o E i (k + 1) = cross1 o E i k + if Crosses o (E.getD i []) (E.getD k []) then 1 else 0 := by
  unfold cross1
  rw [List.range_succ, List.filter_append, List.length_append]
  congr 1
  split
  · rename_i h; rw [List.filter_cons, if_pos (by rw [decide_eq_true_iff]; exact h)]; rfl
  · rename_i h; rw [List.filter_cons, if_neg (by rw [decide_eq_true_iff]; exact h)]; rfl
/-- the number of pairs that cross -/
noncomputable def crossings (o : List Int) (E : List (List Int)) : Nat := crossN o E E.length
section
variable {n : Nat} {o : List Int} {E : List (List Int)}
end
end Go.Proofs.Ythbmcbflnibpbac

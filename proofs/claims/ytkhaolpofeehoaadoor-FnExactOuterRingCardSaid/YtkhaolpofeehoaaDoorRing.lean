/- Rings: chords that cross. -/
import Derived.Test.YtkhaolpofeehoaaDoorOrder
import Derived.Test.YtkhaolpofeehoaaDoorMatch
import Derived.Test.YtkhaolpofeehoaaDoorEdges
namespace Go.Proofs.YtkhaolpofeehoaaDoor
theorem rset {n w : Nat} {f f' : Nat → Int} {y : Int} (hw : w < n) (h1 : f' w = y) (h2 : ∀ v, v ≠ w → f' v = f v) : ((List.range n).map f).set w y = (List.range n).map f' := by
  apply List.ext_getElem
  · simp
  · intro v h3 h4
    simp only [List.length_map, List.length_range] at h4
    rw [List.getElem_set]
    by_cases e : w = v
    · subst e; rw [if_pos rfl]; simp [h1]
    · rw [if_neg e]; simp [h2 v (fun h => e h.symm)]
theorem ridx {β : Type} {n w : Nat} {f : Nat → Int} {q : Int → Option β} (hw : w < n) : idx ((List.range n).map f) (w : Int) q = q (f w) := by
  rw [idx_nat (by simp; exact hw)]; simp
/-- where each vertex stands -/
def placesOf (n : Nat) (o : List Int) : List Int := (List.range n).map fun (v : Nat) => (o.idxOf (v : Int) : Int)
def placesTo (n : Nat) (o : List Int) (k : Nat) : List Int := (List.range n).map fun (v : Nat) => if (v : Int) ∈ o.take k then (o.idxOf (v : Int) : Int) else 0
theorem order_mem {n : Nat} {o : List Int} (h : IsOrder n o) {v : Nat} (hv : v < n) : (v : Int) ∈ o := by
  refine Classical.byContradiction fun hn => ?_
  have h1 : ((v : Int) :: o).Nodup := List.nodup_cons.2 ⟨hn, h.2.2⟩
  have h2 := nodup_len (n := n) h1 (fun x hx => by
    rcases List.mem_cons.1 hx with e | e
    · omega
    · exact h.2.1 x e)
  rw [List.length_cons, h.1] at h2
  omega
theorem placesTo_all {n : Nat} {o : List Int} (h : IsOrder n o) : placesTo n o o.length = placesOf n o := by
  unfold placesTo placesOf
  refine List.map_congr_left fun v hv => ?_
  rw [List.take_length, if_pos (order_mem h (List.mem_range.1 hv))]
theorem placesTo_zero (n : Nat) (o : List Int) : placesTo n o 0 = List.replicate n 0 := by
  unfold placesTo
  apply List.ext_getElem <;> simp
theorem placesTo_set {n : Nat} {o : List Int} (h : IsOrder n o) {k : Nat} (hk : k < o.length) : (placesTo n o k).set (o[k]).toNat (k : Int) = placesTo n o (k + 1) := by
  have hb := h.2.1 _ (List.getElem_mem hk)
  obtain ⟨w, hw⟩ := Int.eq_ofNat_of_zero_le hb.1
  unfold placesTo
  rw [hw, Int.toNat_natCast]
  refine rset (by omega) ?_ fun v hv => ?_
  · rw [if_pos (by rw [take_succ_of hk, hw]; simp), ← hw, h.2.2.idxOf_getElem k hk]
  · have : (v : Int) ∈ o.take (k + 1) ↔ (v : Int) ∈ o.take k := by
      rw [take_succ_of hk, List.mem_append, List.mem_singleton, hw]
      exact ⟨fun h => h.elim id fun e => absurd (by omega) hv, .inl⟩
    simp only [this]
theorem place_inj {n : Nat} {o : List Int} (h : IsOrder n o) {u v : Nat} (hu : u < n) (hv : v < n) : o.idxOf (u : Int) = o.idxOf (v : Int) ↔ u = v := by
  constructor
  · intro e
    have h1 := order_mem h hu
    have h2 := order_mem h hv
    have h3 := List.getElem_idxOf (List.idxOf_lt_length_of_mem h1)
    have h4 := List.getElem_idxOf (List.idxOf_lt_length_of_mem h2)
    simp only [e] at h3
    have h5 := h3.symm.trans h4
    omega
  · rintro rfl; rfl
theorem l24Places_eq {n : Nat} {o : List Int} (h : IsOrder n o) (hn : n ≤ 16) : F_spec_l24Places o = some (placesOf n o) := by
  unfold F_spec_l24Places
  have hl := h.1
  have key : lp (fun s => F_spec_l24Places_l1 o s.1 s.2) (List.replicate n (0 : Int), 0) = some (.inl (placesOf n o)) := by
    refine lp_upto (fun k => (placesTo n o k, (k : Int))) o.length (by rw [placesTo_zero]; rfl) (fun k hk => ?_) ?_
    · have hb := h.2.1 _ (List.getElem_mem hk)
      obtain ⟨w, hw⟩ := Int.eq_ofNat_of_zero_le hb.1
      have hs := placesTo_set h hk
      simp only [F_spec_l24Places_l1]
      rw [if_pos (by omega), idx_nat hk, ← hs]
      unfold placesTo
      rw [hw, ridx (by omega), ck_of (inI (by omega) (by omega))]; rfl
    · simp only [F_spec_l24Places_l1]
      rw [if_neg (by omega), placesTo_all h]
  rw [mkS_of (by omega) (by unfold lim; omega), hl, Int.toNat_natCast, bnd_l key]; rfl
theorem placesIn_eq {n : Nat} {o : List Int} (h : IsOrder n o) (h1 : 1 ≤ n) (hn : n ≤ 16) : F_impl_placesIn o = some (placesOf n o, true) := by
  unfold F_impl_placesIn F_slices_Values_int64
  have hl := h.1
  have key : lp (fun s => F_impl_placesIn_l1 o s.1 s.2) (List.replicate n (0 : Int), 0) = some (.inl (placesOf n o)) := by
    refine lp_upto (fun k => (placesTo n o k, (k : Int))) o.length (by rw [placesTo_zero]; rfl) (fun k hk => ?_) ?_
    · have hb := h.2.1 _ (List.getElem_mem hk)
      obtain ⟨w, hw⟩ := Int.eq_ofNat_of_zero_le hb.1
      have hs := placesTo_set h hk
      simp only [F_impl_placesIn_l1]
      rw [if_pos (by omega), idx_nat hk, ← hs]
      unfold placesTo
      rw [hw, ridx (by omega), ck_of (inI (by omega) (by omega))]; rfl
    · simp only [F_impl_placesIn_l1]
      rw [if_neg (by omega), placesTo_all h]
  have hr : Rises (srt o) n := rises_srt.2 h.2
  rw [if_neg (by omega), if_neg (by omega), cal_some_eq, cal_of (sorted_eq (by omega)), hl, cal_of (increasing_eq _ _ (by rw [srt_len]; omega) (by omega) (by omega)), if_neg (by simpa using hr), mkS_of (by omega) (by unfold lim; omega), Int.toNat_natCast, bnd_l key]; rfl
/-- chords with ends x y and z w cross -/
def CrossP (x y z w : Int) : Prop := (min x y < min z w ∧ min z w < max x y ∧ max x y < max z w) ∨ (min z w < min x y ∧ min x y < max z w ∧ max z w < max x y)
def Crosses (o : List Int) (e f : List Int) : Prop := CrossP (o.idxOf (e.getD 0 0)) (o.idxOf (e.getD 1 0)) (o.idxOf (f.getD 0 0)) (o.idxOf (f.getD 1 0))
theorem min_if (a b : Int) : (if a < b then some a else some b) = some (min a b) := by split <;> (congr 1; omega)
theorem max_if (a b : Int) : (if b < a then some a else some b) = some (max a b) := by split <;> (congr 1; omega)
/-- an edge as one of the graph's: its two ends -/
def Pair (n : Nat) (e : List Int) : Prop := ∃ a b : Nat, e = [(a : Int), (b : Int)] ∧ a < b ∧ b < n
open Classical in
theorem l24Cross_eq {n : Nat} {o : List Int} (h : IsOrder n o) {e f : List Int} (he : Pair n e) (hf : Pair n f) : F_spec_l24Cross (placesOf n o) e f = some (decide (Crosses o e f)) := by
  obtain ⟨a, b, rfl, hab, hb⟩ := he
  obtain ⟨c, d, rfl, hcd, hd⟩ := hf
  have P : ∀ {β : Type} (v : Nat) (hv : v < n) (q : Int → Option β), idx (placesOf n o) (v : Int) q = q (o.idxOf (v : Int)) := fun v hv q => by unfold placesOf; exact ridx hv
  have i0 : ∀ {β : Type} (x y : Int) (k : Int → Option β), idx [x, y] 0 k = k x := fun x y k => idx_of (by decide) rfl
  have i1 : ∀ {β : Type} (x y : Int) (k : Int → Option β), idx [x, y] 1 k = k y := fun x y k => idx_of (by decide) rfl
  have ha : a < n := by omega
  have hc : c < n := by omega
  unfold F_spec_l24Cross F_spec_l1Min F_spec_l1Max
  simp only [i0, i1, P a ha, P b hb, P c hc, P d hd, min_if, max_if, cal_some_eq]
  unfold Crosses CrossP
  simp only [List.getD_cons_zero, List.getD_cons_succ]
  generalize (o.idxOf (a : Int) : Int) = x
  generalize (o.idxOf (b : Int) : Int) = y
  generalize (o.idxOf (c : Int) : Int) = z
  generalize (o.idxOf (d : Int) : Int) = w
  repeat' split
  all_goals (congr 1; symm; first | (rw [decide_eq_true_iff]; omega) | (rw [decide_eq_false_iff_not]; omega) | (rw [decide_eq_decide]; omega))
open Classical in
theorem alternate_eq {n : Nat} {o : List Int} (h : IsOrder n o) {e f : List Int} (he : Pair n e) (hf : Pair n f) : F_impl_alternate (placesOf n o) e f = some (decide (Crosses o e f)) := by
  obtain ⟨a, b, rfl, hab, hb⟩ := he
  obtain ⟨c, d, rfl, hcd, hd⟩ := hf
  have P : ∀ {β : Type} (v : Nat) (hv : v < n) (q : Int → Option β), idx (placesOf n o) (v : Int) q = q (o.idxOf (v : Int)) := fun v hv q => by unfold placesOf; exact ridx hv
  have i0 : ∀ {β : Type} (x y : Int) (k : Int → Option β), idx [x, y] 0 k = k x := fun x y k => idx_of (by decide) rfl
  have i1 : ∀ {β : Type} (x y : Int) (k : Int → Option β), idx [x, y] 1 k = k y := fun x y k => idx_of (by decide) rfl
  have ha : a < n := by omega
  have hc : c < n := by omega
  have B : ∀ (v : Nat) (hv : v < n) (s t : Int), F_impl_alternate_1 (v : Int) s (placesOf n o) t = some (decide (s < (o.idxOf (v : Int) : Int) ∧ (o.idxOf (v : Int) : Int) < t)) := by
    intro v hv s t
    unfold F_impl_alternate_1
    rw [P v hv]
    by_cases h1 : s < (o.idxOf (v : Int) : Int)
    · rw [if_pos h1, P v hv]; simp [h1]
    · rw [if_neg h1]; simp [h1]
  have n1 := place_inj h ha hb
  have n2 := place_inj h hc hd
  have m1 := place_inj h ha hc
  have m2 := place_inj h ha hd
  have m3 := place_inj h hb hc
  have m4 := place_inj h hb hd
  unfold F_impl_alternate
  simp only [i0, i1, P a ha, P b hb, B c hc, B d hd, cal_some_eq]
  unfold Crosses CrossP
  simp only [List.getD_cons_zero, List.getD_cons_succ]
  generalize o.idxOf (a : Int) = x at *
  generalize o.idxOf (b : Int) = y at *
  generalize o.idxOf (c : Int) = z at *
  generalize o.idxOf (d : Int) = w at *
  by_cases p1 : a = c
  · rw [if_neg (by omega)]; congr 1; symm; rw [decide_eq_false_iff_not]; have := m1.2 p1; omega
  rw [if_pos (by omega)]
  by_cases p2 : a = d
  · rw [if_neg (by omega)]; congr 1; symm; rw [decide_eq_false_iff_not]; have := m2.2 p2; omega
  rw [if_pos (by omega)]
  by_cases p3 : b = c
  · rw [if_neg (by omega)]; congr 1; symm; rw [decide_eq_false_iff_not]; have := m3.2 p3; omega
  rw [if_pos (by omega)]
  by_cases p4 : b = d
  · rw [if_neg (by omega)]; congr 1; symm; rw [decide_eq_false_iff_not]; have := m4.2 p4; omega
  rw [if_pos (by omega)]
  have q0 : x ≠ y := fun e => by have := n1.1 e; omega
  have q1 : z ≠ w := fun e => by have := n2.1 e; omega
  have q2 : x ≠ z := fun e => p1 (m1.1 e)
  have q3 : x ≠ w := fun e => p2 (m2.1 e)
  have q4 : y ≠ z := fun e => p3 (m3.1 e)
  have q5 : y ≠ w := fun e => p4 (m4.1 e)
  clear n1 n2 m1 m2 m3 m4 P B i0 i1
  congr 1
  rw [Bool.eq_iff_iff, decide_eq_true_iff]
  by_cases r1 : min (x : Int) y < z ∧ (z : Int) < max (x : Int) y
  · by_cases r2 : min (x : Int) y < w ∧ (w : Int) < max (x : Int) y
    · rw [decide_eq_true r1, decide_eq_true r2]; simp only [bne_self_eq_false, Bool.false_eq_true, false_iff]; omega
    · rw [decide_eq_true r1, decide_eq_false r2]; simp only [bne_iff_ne, ne_eq, Bool.true_eq_false, not_false_eq_true, true_iff]; omega
  · by_cases r2 : min (x : Int) y < w ∧ (w : Int) < max (x : Int) y
    · rw [decide_eq_false r1, decide_eq_true r2]; simp only [bne_iff_ne, ne_eq, Bool.false_eq_true, not_false_eq_true, true_iff]; omega
    · rw [decide_eq_false r1, decide_eq_false r2]; simp only [bne_self_eq_false, Bool.false_eq_true, false_iff]; omega
theorem EdgeOk.pair {g : List (List Int)} (hg : GOk g) {e : List Int} (h : EdgeOk g e) : Pair g.length e := by
  obtain ⟨x, y, rfl, h1, hx, h2⟩ := h.two
  have := hg.row_mem hx h2
  exact ⟨x, y, rfl, h1, by omega⟩
theorem edgesOf_eq {g : List (List Int)} (hg : GOk g) : F_impl_edgesOf g = some (edges g) := by
  have h16 := hg.n16
  unfold F_impl_edgesOf
  have key := lp_nums (step := fun s => F_impl_edgesOf_l1 g s.1 s.2) g.length (fun k => (List.range k).flatMap fun u => ((g.getD u []).filter fun w => decide ((u : Int) < w)).map fun w => [(u : Int), w]) (o := .inl (edges g)) (fun k hk => ?_) ?_
  · simp only [List.range_zero, List.flatMap_nil] at key
    rw [bnd_l key]; rfl
  · have hb := edges_part hg k (by omega)
    obtain ⟨acc, hacc⟩ : ∃ acc, acc = ((List.range k).flatMap fun u => ((g.getD u []).filter fun w => decide ((u : Int) < w)).map fun w => [(u : Int), w]) := ⟨_, rfl⟩
    rw [← hacc] at hb ⊢
    have hr := hg.row_len hk
    have hgd : g.getD k [] = g[k] := by simp [hk]
    simp only [F_impl_edgesOf_l1]
    rw [if_pos (by omega), idx_nat hk]
    have inner := lp_nums (step := fun s => F_impl_edgesOf_l2 (k : Int) g[k] s.1 s.2) g[k].length (fun j => acc ++ ((g[k].take j).filter fun w => decide ((k : Int) < w)).map fun w => [(k : Int), w]) (o := .inl (acc ++ (g[k].filter fun w => decide ((k : Int) < w)).map fun w => [(k : Int), w])) (fun j hj => ?_) ?_
    · simp only [List.take_zero, List.filter_nil, List.map_nil, List.append_nil] at inner
      rw [inner, bnd_inl_eq]
      unfold F_impl_edgesOf_k3
      rw [ck_of (inI (by omega) (by omega)), List.range_succ, List.flatMap_append, ← hacc, List.flatMap_cons, List.flatMap_nil, List.append_nil, hgd]
      rfl
    · have hl : ((g[k].take j).filter fun w => decide ((k : Int) < w)).length ≤ 16 := by
        have := List.length_filter_le (fun w => decide ((k : Int) < w)) (g[k].take j)
        simp at this ⊢; omega
      simp only [F_impl_edgesOf_l2]
      rw [if_pos (by omega), idx_nat hj, filter_take_snoc hj]
      by_cases h : (k : Int) < g[k][j]
      · rw [if_pos h, app1_s (by simp; omega), ck_of (inI (by omega) (by omega))]
        simp [h]
      · rw [if_neg h, ck_of (inI (by omega) (by omega))]
        simp [h]
    · simp only [F_impl_edgesOf_l2]
      rw [if_neg (by omega), List.take_length]
  · simp only [F_impl_edgesOf_l1]
    rw [if_neg (by omega)]; rfl
theorem edges_pair {g : List (List Int)} (hg : GOk g) {e : List Int} (h : e ∈ edges g) : Pair g.length e := by
  unfold edges at h
  rw [List.mem_flatMap] at h
  obtain ⟨u, hu, h⟩ := h
  rw [List.mem_range] at hu
  rw [List.mem_map] at h
  obtain ⟨w, hw, rfl⟩ := h
  rw [List.mem_filter, decide_eq_true_iff, show g.getD u [] = g[u] by simp [hu]] at hw
  have := hg.row_mem hu hw.1
  obtain ⟨v, rfl⟩ := Int.eq_ofNat_of_zero_le this.1
  exact ⟨u, v, rfl, by omega, by omega⟩
theorem edges_len256 {g : List (List Int)} (hg : GOk g) : (edges g).length ≤ 256 := by
  have := edges_part hg g.length (Nat.le_refl _)
  have := hg.n16
  unfold edges; omega
open Classical in
/-- how many of the first k cross the i-th -/
noncomputable def cross1 (o : List Int) (E : List (List Int)) (i k : Nat) : Nat := ((List.range k).filter fun j => decide (Crosses o (E.getD i []) (E.getD j []))).length
noncomputable def crossN (o : List Int) (E : List (List Int)) : Nat → Nat
  | 0 => 0
  | i + 1 => crossN o E i + cross1 o E i i
theorem cross1_le (o : List Int) (E : List (List Int)) (i k : Nat) : cross1 o E i k ≤ k := by unfold cross1; exact Nat.le_trans (List.length_filter_le ..) (by simp)
theorem crossN_le (o : List Int) (E : List (List Int)) : ∀ i, crossN o E i ≤ i * i
  | 0 => Nat.le_refl _
  | i + 1 => by
    have h1 := crossN_le o E i
    have h2 := cross1_le o E i i
    show crossN o E i + cross1 o E i i ≤ _
    rw [Nat.add_mul, Nat.one_mul, Nat.mul_add, Nat.mul_one]; omega
theorem crossN_zero (o : List Int) (E : List (List Int)) (i : Nat) : cross1 o E i 0 = 0 := by unfold cross1; simp
theorem crossN_succ (o : List Int) (E : List (List Int)) (i : Nat) : crossN o E (i + 1) = crossN o E i + cross1 o E i i := rfl
open Classical in
theorem cross1_succ (o : List Int) (E : List (List Int)) (i k : Nat) : cross1 o E i (k + 1) = cross1 o E i k + if Crosses o (E.getD i []) (E.getD k []) then 1 else 0 := by
  unfold cross1
  rw [List.range_succ, List.filter_append, List.length_append]
  congr 1
  split
  · rename_i h; rw [List.filter_cons, if_pos (by rw [decide_eq_true_iff]; exact h)]; rfl
  · rename_i h; rw [List.filter_cons, if_neg (by rw [decide_eq_true_iff]; exact h)]; rfl
/-- the number of pairs that cross -/
noncomputable def crossings (o : List Int) (E : List (List Int)) : Nat := crossN o E E.length
section
variable {n : Nat} {o : List Int} {E : List (List Int)}
theorem l24Crossings_eq (h : IsOrder n o) (hn : n ≤ 16) (hE : ∀ e ∈ E, Pair n e) (hl : E.length ≤ 256) : F_spec_l24Crossings E o = some (crossings o E : Int) := by
  unfold F_spec_l24Crossings
  rw [cal_of (l24Places_eq h hn)]
  have eD : ∀ k (hk : k < E.length), E.getD k [] = E[k] := fun k hk => by simp [hk]
  have key : lp (fun s => F_spec_l24Crossings_l1 E (placesOf n o) s.1 s.2) (0, 0) = some (.inl (crossings o E : Int)) := by
    refine lp_upto (fun i => ((crossN o E i : Int), (i : Int))) E.length rfl (fun i hi => ?_) ?_
    · simp only [F_spec_l24Crossings_l1]
      have b1 := crossN_le o E i
      have b0 : i * i ≤ 256 * 256 := Nat.mul_le_mul (by omega) (by omega)
      have inner : lp (fun s => F_spec_l24Crossings_l2 E (placesOf n o) (i : Int) s.1 s.2) ((crossN o E i : Int), 0) = some (.inl (crossN o E (i + 1) : Int)) := by
        refine lp_upto (fun k => (((crossN o E i + cross1 o E i k : Nat) : Int), (k : Int))) i (by rw [crossN_zero]; rfl) (fun k hk => ?_) ?_
        · simp only [F_spec_l24Crossings_l2]
          have b2 := cross1_le o E i k
          have hki : k < E.length := by omega
          rw [if_pos (by omega), idx_nat hi, idx_nat hki, cal_of (l24Cross_eq h (hE _ (List.getElem_mem hi)) (hE _ (List.getElem_mem hki)))]
          unfold F_spec_l1Flag
          rw [cross1_succ, eD i hi, eD k hki]
          by_cases hc : Crosses o E[i] E[k]
          · rw [if_pos (by simpa using hc), cal_some_eq, ck_of (inI (by omega) (by omega)), ck_of (inI (by omega) (by omega)), if_pos hc]; rfl
          · rw [if_neg (by simpa using hc), cal_some_eq, ck_of (inI (by omega) (by omega)), ck_of (inI (by omega) (by omega)), if_neg hc]; simp
        · simp only [F_spec_l24Crossings_l2]
          rw [if_neg (by omega), crossN_succ]
      rw [if_pos (by omega), bnd_l inner]
      unfold F_spec_l24Crossings_k3
      rw [ck_of (inI (by omega) (by omega))]; rfl
    · simp only [F_spec_l24Crossings_l1]
      rw [if_neg (by omega)]; rfl
  rw [bnd_l key]; rfl
theorem crossingsOn_eq (h : IsOrder n o) (h1 : 1 ≤ n) (hn : n ≤ 16) (hE : ∀ e ∈ E, Pair n e) (hl : E.length ≤ 256) : F_impl_crossingsOn E o = some (crossings o E : Int) := by
  unfold F_impl_crossingsOn
  rw [cal_of (placesIn_eq h h1 hn)]
  have eD : ∀ k (hk : k < E.length), E.getD k [] = E[k] := fun k hk => by simp [hk]
  have key : lp (fun s => F_impl_crossingsOn_l1 E (placesOf n o, true) s.1 s.2) (0, 0) = some (.inl (crossings o E : Int)) := by
    refine lp_upto (fun i => ((crossN o E i : Int), (i : Int))) E.length rfl (fun i hi => ?_) ?_
    · simp only [F_impl_crossingsOn_l1]
      have b1 := crossN_le o E i
      have b0 : i * i ≤ 256 * 256 := Nat.mul_le_mul (by omega) (by omega)
      have hd : (E.drop (0 : Int).toNat).take ((i : Int).toNat - (0 : Int).toNat) = E.take i := by rw [show (0 : Int).toNat = 0 from rfl, List.drop_zero, Int.toNat_natCast, Nat.sub_zero]
      have htl : (E.take i).length = i := by rw [List.length_take]; omega
      have inner : lp (fun s => F_impl_crossingsOn_l2 E (placesOf n o, true) (i : Int) E[i] s.1 s.2) ((crossN o E i : Int), 0) = some (.inl (crossN o E (i + 1) : Int)) := by
        refine lp_upto (fun k => (((crossN o E i + cross1 o E i k : Nat) : Int), (k : Int))) i (by rw [crossN_zero]; rfl) (fun k hk => ?_) ?_
        · simp only [F_impl_crossingsOn_l2]
          have b2 := cross1_le o E i k
          have hki : k < E.length := by omega
          rw [hd, if_pos (by omega), idx_nat (by omega), List.getElem_take, cal_of (alternate_eq h (hE _ (List.getElem_mem hi)) (hE _ (List.getElem_mem hki))), cross1_succ, eD i hi, eD k hki]
          by_cases hc : Crosses o E[i] E[k]
          · rw [if_pos (by simpa using hc), ck_of (inI (by omega) (by omega)), ck_of (inI (by omega) (by omega)), if_pos hc]; rfl
          · rw [if_neg (by simpa using hc), ck_of (inI (by omega) (by omega)), if_neg hc]; rfl
        · simp only [F_impl_crossingsOn_l2]
          rw [hd, if_neg (by omega), crossN_succ]
      rw [if_pos (by omega), idx_nat hi, slc_of ⟨by decide, by omega, by omega⟩, bnd_l inner]
      unfold F_impl_crossingsOn_k3
      rw [ck_of (inI (by omega) (by omega))]; rfl
    · simp only [F_impl_crossingsOn_l1]
      rw [if_neg (by omega)]; rfl
  rw [bnd_l key]; rfl
end
end Go.Proofs.YtkhaolpofeehoaaDoor

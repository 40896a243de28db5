/- The edges of a graph: listed, counted; sums over all pairs. -/
import Derived.Test.YtadagcgehcpelaaDoorCount
namespace Go.Proofs.YtadagcgehcpelaaDoor
/-- a rising row is what its set holds -/
theorem rises_els {r : List Int} {n : Nat} (h : Rises r n) (hn : n ≤ 16) : r = ints (els (mk r)) := by
  have hlt : mk r < 2 ^ 16 := Nat.lt_of_lt_of_le h.lt (pow16 hn)
  have e : r.map Int.toNat = els (mk r) := by
    refine sorted_ext ?_ (els_sorted _) fun x => ?_
    · rw [List.pairwise_iff_getElem]
      intro i j hi hj hij
      simp only [List.length_map] at hi hj
      rw [List.getElem_map, List.getElem_map]
      have key : ∀ d i, (hi : i + d + 1 < r.length) → r[i] < r[i + d + 1] := by
        intro d
        induction d with
        | zero => intro i hi; have := (h (i + 1) (by omega)).2.2 (by omega); simpa using this
        | succ d ih => intro i hi; have h1 := ih i (by omega); have h2 := (h (i + (d + 1) + 1) hi).2.2 (by omega); simp only [Nat.add_sub_cancel] at h2; exact Int.lt_trans h1 h2
      obtain ⟨d, rfl⟩ : ∃ d, j = i + d + 1 := ⟨j - i - 1, by omega⟩
      have h1 := key d i hj
      have h2 := (h i hi).1
      omega
    · rw [List.mem_map, mem_els hlt, mk_bit, decide_eq_true_iff]
  unfold ints
  rw [← e, List.map_map]
  conv => lhs; rw [← List.map_id r]
  refine List.map_congr_left fun x hx => ?_
  have := h.mem hx
  simp; omega
theorem row_els {g : List (List Int)} (hg : GOk g) {v : Nat} (h : v < g.length) : g[v] = ints (els (mk g[v])) := rises_els (hg.rows v h).1 hg.n16
theorem nb_get {g : List (List Int)} {v : Nat} (h : v < g.length) : (nb g)[v]'(by rw [nb_len]; exact h) = mk g[v] := by simp [nb]
theorem nb_getD {g : List (List Int)} {v : Nat} (h : v < g.length) : (nb g).getD v 0 = mk g[v] := by rw [getD_get (by rw [nb_len]; exact h), nb_get h]
/-! ## sums -/
def sumTo (n : Nat) (f : Nat → Nat) : Nat := ((List.range n).map f).sum
theorem sumTo_succ (n : Nat) (f : Nat → Nat) : sumTo (n + 1) f = sumTo n f + f n := by unfold sumTo; rw [List.range_succ, List.map_append, List.sum_append]; simp
theorem sumTo_add (n : Nat) (f g : Nat → Nat) : sumTo n (fun i => f i + g i) = sumTo n f + sumTo n g := by
  induction n with
  | zero => rfl
  | succ n ih => rw [sumTo_succ, sumTo_succ, sumTo_succ, ih]; omega
theorem sumTo_congr {n : Nat} {f g : Nat → Nat} (h : ∀ i, i < n → f i = g i) : sumTo n f = sumTo n g := by
  unfold sumTo; rw [List.map_congr_left fun i hi => h i (List.mem_range.1 hi)]
theorem sumTo_zero {n : Nat} {f : Nat → Nat} (h : ∀ i, i < n → f i = 0) : sumTo n f = 0 := by
  induction n with
  | zero => rfl
  | succ n ih => rw [sumTo_succ, ih (fun i hi => h i (by omega)), h n (by omega)]
theorem sumTo_eq_zero {n : Nat} {f : Nat → Nat} (h : sumTo n f = 0) : ∀ i, i < n → f i = 0 := by
  induction n with
  | zero => intro i hi; omega
  | succ n ih =>
    rw [sumTo_succ] at h
    intro i hi
    rcases Nat.lt_or_eq_of_le (Nat.le_of_lt_succ hi) with e | e
    · exact ih (by omega) i e
    · subst e; omega
theorem sumTo_comm (n m : Nat) (f : Nat → Nat → Nat) : sumTo n (fun i => sumTo m (f i)) = sumTo m (fun j => sumTo n (fun i => f i j)) := by
  induction n with
  | zero => exact (sumTo_zero (fun _ _ => rfl)).symm
  | succ n ih =>
    rw [sumTo_succ, ih, ← sumTo_add]
    exact sumTo_congr fun j _ => by rw [sumTo_succ]
theorem sumTo_bit (n : Nat) (p : Nat → Bool) : (List.range n).countP p = sumTo n (fun i => if p i = true then 1 else 0) := by
  induction n with
  | zero => rfl
  | succ n ih => rw [countP_snoc, ih, sumTo_succ]
theorem card_sum {n s : Nat} (hn : n ≤ 16) (hs : s < 2 ^ n) : card s = sumTo n (fun w => if s.testBit w = true then 1 else 0) := by
  unfold card
  rw [els_range hn hs, ← List.countP_eq_length_filter, sumTo_bit]
/-- twice the edges -/
def degSum (a : List Nat) : Nat := sumTo a.length fun u => card (a.getD u 0)
/-- those of s above u -/
def above (u s : Nat) : Nat := (els s).countP fun w => decide (u < w)
theorem above_sum {n u s : Nat} (hn : n ≤ 16) (hs : s < 2 ^ n) : above u s = sumTo n (fun w => if (s.testBit w && decide (u < w)) = true then 1 else 0) := by
  unfold above
  rw [els_range hn hs, List.countP_filter, ← sumTo_bit]
  exact List.countP_congr fun w _ => by simp [and_comm]
theorem deg_even {a : List Nat} (ha : a.length ≤ 16) (hA : Sym a) : degSum a = 2 * sumTo a.length (fun u => above u (a.getD u 0)) := by
  have e1 : ∀ u, u < a.length → card (a.getD u 0) = above u (a.getD u 0) + sumTo a.length (fun w => if ((a.getD u 0).testBit w && decide (w < u)) = true then 1 else 0) := by
    intro u hu
    have hlt := hA.lt u hu
    rw [getD_get hu, card_sum ha hlt, above_sum ha hlt, ← sumTo_add]
    refine sumTo_congr fun w hw => ?_
    by_cases h : a[u].testBit w = true
    · have hne : u ≠ w := by intro e; subst e; rw [hA.irr u hu] at h; cases h
      rcases Nat.lt_or_gt_of_ne hne with g | g
      · simp [h, g, show ¬ w < u by omega]
      · simp [h, g, show ¬ u < w by omega]
    · simp [h]
  unfold degSum
  rw [sumTo_congr e1, sumTo_add, sumTo_comm]
  have e2 : sumTo a.length (fun j => sumTo a.length fun i => if ((a.getD i 0).testBit j && decide (j < i)) = true then 1 else 0) = sumTo a.length (fun u => above u (a.getD u 0)) := by
    refine sumTo_congr fun u hu => ?_
    rw [getD_get hu, above_sum ha (hA.lt u hu)]
    refine sumTo_congr fun w hw => ?_
    rw [getD_get hw, hA.sym w u hw hu]
  rw [e2]; omega
/-- the edges, in order -/
def edges (g : List (List Int)) : List (List Int) := (List.range g.length).flatMap fun u => ((g.getD u []).filter fun w => decide ((u : Int) < w)).map fun w => [(u : Int), w]
theorem edges_len {g : List (List Int)} (hg : GOk g) : 2 * (edges g).length = degSum (nb g) := by
  have h1 := nb_len g
  rw [deg_even (by have := hg.n16; omega) (nbs_sym hg)]
  congr 1
  unfold edges sumTo
  rw [List.length_flatMap, h1]
  congr 1
  refine List.map_congr_left fun u hu => ?_
  rw [List.mem_range] at hu
  rw [List.length_map, ← List.countP_eq_length_filter, nb_getD hu, show g.getD u [] = g[u] by simp [hu]]
  unfold above
  conv => lhs; rw [row_els hg hu]
  unfold ints
  rw [List.countP_map]
  exact List.countP_congr fun w _ => by simp
theorem filter_take_snoc {r : List Int} {p : Int → Bool} {k : Nat} (hk : k < r.length) : (r.take (k + 1)).filter p = (r.take k).filter p ++ (if p r[k] = true then [r[k]] else []) := by
  rw [take_succ_of hk, List.filter_append]; congr 1; by_cases h : p r[k] = true <;> simp [h]
theorem edges_part {g : List (List Int)} (hg : GOk g) : ∀ k, k ≤ g.length → ((List.range k).flatMap fun u => ((g.getD u []).filter fun w => decide ((u : Int) < w)).map fun w => [(u : Int), w]).length ≤ 16 * k
  | 0, _ => by simp
  | k + 1, hk => by
    rw [List.range_succ, List.flatMap_append, List.length_append]
    have h1 := edges_part hg k (by omega)
    have h2 := hg.row_len (v := k) (by omega)
    have h3 : ((g.getD k []).filter fun w => decide ((k : Int) < w)).length ≤ (g.getD k []).length := List.length_filter_le ..
    have e : g.getD k [] = g[k] := by simp [show k < g.length by omega]
    rw [e] at h3
    rw [List.flatMap_cons, List.flatMap_nil, List.append_nil, List.length_map, e]; omega
theorem l1Edges_eq {g : List (List Int)} (hg : GOk g) : F_spec_l1Edges g = some (edges g) := by
  have h16 := hg.n16
  unfold F_spec_l1Edges
  have key := lp_nums (step := fun s => F_spec_l1Edges_l1 g s.1 s.2) g.length (fun k => (List.range k).flatMap fun u => ((g.getD u []).filter fun w => decide ((u : Int) < w)).map fun w => [(u : Int), w]) (o := .inl (edges g)) (fun k hk => ?_) ?_
  · simp only [List.range_zero, List.flatMap_nil] at key
    rw [bnd_l key]; rfl
  · have hb := edges_part hg k (by omega)
    obtain ⟨acc, hacc⟩ : ∃ acc, acc = ((List.range k).flatMap fun u => ((g.getD u []).filter fun w => decide ((u : Int) < w)).map fun w => [(u : Int), w]) := ⟨_, rfl⟩
    rw [← hacc] at hb ⊢
    have hr := hg.row_len hk
    have hgd : g.getD k [] = g[k] := by simp [hk]
    simp only [F_spec_l1Edges_l1, F_spec_l1Size]
    rw [cal_some_eq, if_pos (by omega)]
    have inner := lp_nums (step := fun s => F_spec_l1Edges_l2 g (k : Int) s.1 s.2) g[k].length (fun j => acc ++ ((g[k].take j).filter fun w => decide ((k : Int) < w)).map fun w => [(k : Int), w]) (o := .inl (acc ++ (g[k].filter fun w => decide ((k : Int) < w)).map fun w => [(k : Int), w])) (fun j hj => ?_) ?_
    · simp only [List.take_zero, List.filter_nil, List.map_nil, List.append_nil] at inner
      rw [inner, bnd_inl_eq]
      unfold F_spec_l1Edges_k3
      rw [ck_of (inI (by omega) (by omega)), List.range_succ, List.flatMap_append, ← hacc, List.flatMap_cons, List.flatMap_nil, List.append_nil, hgd]
      rfl
    · have hl : ((g[k].take j).filter fun w => decide ((k : Int) < w)).length ≤ 16 := by
        have := List.length_filter_le (fun w => decide ((k : Int) < w)) (g[k].take j)
        simp at this ⊢; omega
      simp only [F_spec_l1Edges_l2]
      rw [idx_nat hk, if_pos (by omega), idx_nat hk, idx_nat hj, filter_take_snoc hj]
      by_cases h : (k : Int) < g[k][j]
      · rw [if_pos h, idx_nat hk, idx_nat hj, app1_s (by simp; omega), ck_of (inI (by omega) (by omega))]
        simp [h]
      · rw [if_neg h, ck_of (inI (by omega) (by omega))]
        simp [h]
    · simp only [F_spec_l1Edges_l2]
      rw [idx_nat hk, if_neg (by omega), List.take_length]
  · simp only [F_spec_l1Edges_l1, F_spec_l1Size]
    rw [cal_some_eq, if_neg (by omega)]; rfl
end Go.Proofs.YtadagcgehcpelaaDoor

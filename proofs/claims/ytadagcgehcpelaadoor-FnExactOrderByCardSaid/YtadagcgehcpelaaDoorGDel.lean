/- Graphs with an edge or a vertex less. -/
import Derived.Test.YtadagcgehcpelaaDoorDiceF
import Derived.Test.YtadagcgehcpelaaDoorEdges
import Derived.Test.YtadagcgehcpelaaDoorCritical
namespace Go.Proofs.YtadagcgehcpelaaDoor
theorem Has.bit {g : List (List Int)} {n : Nat} {E : Nat → Nat → Prop} (h : Has g n E) {u v : Nat} (hu : u < n) : ((nb g).getD u 0).testBit v = true ↔ E u v := by
  have hl := h.len
  rw [nb_getD (show u < g.length by omega), mk_bit, decide_eq_true_iff]
  constructor
  · rintro ⟨y, hy, rfl⟩
    obtain ⟨w, rfl, hw⟩ := (h.mem u (by omega) y).1 hy
    simpa using hw
  · exact fun he => ⟨v, (h.mem u (by omega) _).2 ⟨v, rfl, he⟩, by simp⟩
/-- the edges of a graph -/
def Ed (g : List (List Int)) (u v : Nat) : Prop := u < g.length ∧ ((nb g).getD u 0).testBit v = true
theorem GOk.has {g : List (List Int)} (hg : GOk g) : Has g g.length (Ed g) := by
  have mem : ∀ v (h : v < g.length) (y : Int), y ∈ g[v] ↔ ∃ u : Nat, y = u ∧ Ed g v u := fun v hv y => by
    unfold Ed
    rw [nb_getD hv]
    constructor
    · intro hy
      have hr := hg.row_mem hv hy
      exact ⟨y.toNat, by omega, hv, by rw [mk_bit, decide_eq_true_iff]; exact ⟨y, hy, rfl⟩⟩
    · rintro ⟨u, rfl, _, hu⟩
      rw [mk_bit, decide_eq_true_iff] at hu
      obtain ⟨w, hw, e⟩ := hu
      have := hg.row_mem hv hw
      rwa [show (u : Int) = w by omega]
  refine ⟨rfl, fun v hv => ?_, mem, fun u v huv => ?_⟩
  · rw [row_els hg hv, ints]
    exact List.Pairwise.map _ (fun a b h => by omega) (els_sorted _)
  · have hm := (mem u huv.1 v).2 ⟨v, rfl, huv⟩
    have hr := hg.row_mem huv.1 hm
    have hv : v < g.length := by omega
    refine ⟨huv.1, hv, fun e => ?_, ?_⟩
    · subst e; exact (hg.rows u huv.1).2 hm
    · have := hg.sym u huv.1 v hm (by omega)
      simp only [Int.toNat_natCast] at this
      obtain ⟨w, e, hw⟩ := (mem v hv u).1 this
      rwa [show u = w by omega]
theorem l1CopyGraph_eqG {g : List (List Int)} (hl : g.length ≤ 1048576) (hr : ∀ x ∈ g, x.length ≤ 1048576) : F_spec_l1CopyGraph g = some g := by
  unfold F_spec_l1CopyGraph
  have : lp (fun s => F_spec_l1CopyGraph_l1 g s.1 s.2) (([] : List (List Int)), 0) = some (.inl g) := by
    refine lp_map g (fun x => x) (fun k hk l hkl => ?_) ?_
    · simp only [F_spec_l1CopyGraph_l1]
      rw [if_pos (by omega), idx_nat hk, cal_of (l1Copy_eqD (hr _ (List.getElem_mem hk))), app1_s (by omega), ck_of (inI (by omega) (by omega))]; rfl
    · simp only [F_spec_l1CopyGraph_l1]
      rw [if_neg (by omega), List.map_id']
  rw [bnd_l this]; rfl
theorem Has.small {g : List (List Int)} {n : Nat} {E : Nat → Nat → Prop} (h : Has g n E) (h16 : n ≤ 16) : g.length ≤ 1048576 ∧ ∀ x ∈ g, x.length ≤ 16 := by
  have hl := h.len
  refine ⟨by omega, fun x hx => ?_⟩
  obtain ⟨v, hv, rfl⟩ := List.getElem_of_mem hx
  have := (h.row hv).len (by omega); omega
theorem l1All_eqG {n : Nat} (hn : n ≤ 16) : F_spec_l1All (n : Int) = some (ints (List.range n)) := by
  unfold F_spec_l1All
  have key : lp (fun s => F_spec_l1All_l1 (n : Int) s.1 s.2) (([] : List Int), 0) = some (.inl (ints (List.range n))) := by
    refine lp_nums n (fun k => ints (List.range k)) (fun k hk => ?_) ?_
    · simp only [F_spec_l1All_l1]
      rw [if_pos (by omega), app1_s (by rw [ints_len, List.length_range]; omega), ck_of (inI (by omega) (by omega)), ints_snoc, List.range_succ]; rfl
    · simp only [F_spec_l1All_l1]
      rw [if_neg (by omega)]
  rw [bnd_l key]; rfl
theorem others_filter {n v : Nat} (hv : v < n) : (List.range n).filter (fun w => decide (w ≠ v)) = others n v := by
  refine List.Perm.eq_of_pairwise (le := (· < ·)) (fun a b _ _ _ _ => by omega) (List.pairwise_lt_range.filter _) ?_ ?_
  · unfold others
    refine List.Pairwise.map _ (fun a b h => ?_) List.pairwise_lt_range
    unfold past; split <;> split <;> omega
  · refine (List.perm_ext_iff_of_nodup (List.nodup_range.filter _) ?_).2 fun w => ?_
    · unfold others
      rw [List.nodup_iff_pairwise_ne, List.pairwise_map]
      exact List.pairwise_lt_range.imp fun {a b} h => by unfold past; split <;> split <;> omega
    · unfold others
      rw [List.mem_filter, List.mem_range, decide_eq_true_iff, List.mem_map]
      constructor
      · rintro ⟨h1, h2⟩
        exact ⟨if w < v then w else w - 1, List.mem_range.2 (by split <;> omega), past_back h1 h2⟩
      · rintro ⟨i, hi, rfl⟩
        have := List.mem_range.1 hi
        unfold past; split <;> omega
theorem ints_filter (L : List Nat) (v : Nat) : (ints L).filter (fun y => decide (y ≠ (v : Int))) = ints (L.filter fun w => decide (w ≠ v)) := by
  unfold ints
  rw [List.filter_map]
  congr 1
  refine List.filter_congr fun w _ => ?_
  simp only [Function.comp_apply]
  exact decide_eq_decide.2 (by omega)
theorem mem_edges {g : List (List Int)} {n : Nat} {E : Nat → Nat → Prop} (h : Has g n E) (e : List Int) : e ∈ edges g ↔ ∃ u v : Nat, e = [(u : Int), (v : Int)] ∧ u < v ∧ E u v := by
  have hl := h.len
  unfold edges
  rw [List.mem_flatMap]
  constructor
  · rintro ⟨u, hu, he⟩
    have hul := List.mem_range.1 hu
    obtain ⟨w, hw, rfl⟩ := List.mem_map.1 he
    obtain ⟨h1, h2⟩ := List.mem_filter.1 hw
    rw [show g.getD u [] = g[u] by simp [hul], h.mem u hul] at h1
    obtain ⟨v, rfl, hv⟩ := h1
    exact ⟨u, v, rfl, by have := of_decide_eq_true h2; omega, hv⟩
  · rintro ⟨u, v, rfl, huv, he⟩
    have hu := (h.rng _ _ he).1
    refine ⟨u, List.mem_range.2 (by omega), List.mem_map.2 ⟨v, List.mem_filter.2 ⟨?_, decide_eq_true (by omega)⟩, rfl⟩⟩
    rw [show g.getD u [] = g[u]'(by omega) by simp [show u < g.length by omega], h.mem u (by omega)]
    exact ⟨v, rfl, he⟩
theorem gok_smallG {g : List (List Int)} (hg : GOk g) : g.length ≤ 1048576 ∧ ∀ x ∈ g, x.length ≤ 1048576 := by
  have h16 := hg.n16
  refine ⟨by omega, fun x hx => ?_⟩
  obtain ⟨v, hv, rfl⟩ := List.getElem_of_mem hx
  have := hg.row_len hv; omega
end Go.Proofs.YtadagcgehcpelaaDoor

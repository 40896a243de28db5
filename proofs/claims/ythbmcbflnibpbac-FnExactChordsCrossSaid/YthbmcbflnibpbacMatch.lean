/- Matchings: which lists of edges are one. -/
import Derived.Test.YthbmcbflnibpbacBitF
import Derived.Test.YthbmcbflnibpbacSetF
namespace Go.Proofs.Ythbmcbflnibpbac
/-- of a good graph: an edge, its lesser end first -/
def EdgeOk (g : List (List Int)) (e : List Int) : Prop := e.length = 2 ∧ e.getD 0 0 < e.getD 1 0 ∧ 0 ≤ e.getD 0 0 ∧ e.getD 0 0 < g.length ∧ e.getD 1 0 ∈ g.getD (e.getD 0 0).toNat []
theorem EdgeOk.two {g : List (List Int)} {e : List Int} (h : EdgeOk g e) : ∃ x y : Nat, e = [(x : Int), (y : Int)] ∧ x < y ∧ ∃ hx : x < g.length, (y : Int) ∈ g[x] := by
  obtain ⟨h1, h2, h3, h4, h5⟩ := h
  match e, h1 with
  | [a, b], _ =>
    simp only [List.getD_cons_zero, List.getD_cons_succ] at h2 h3 h4 h5
    obtain ⟨x, rfl⟩ := Int.eq_ofNat_of_zero_le h3
    obtain ⟨y, rfl⟩ := Int.eq_ofNat_of_zero_le (by omega : 0 ≤ b)
    have hx : x < g.length := by omega
    refine ⟨x, y, rfl, by omega, hx, ?_⟩
    simpa [hx] using h5
theorem edge_lt {g : List (List Int)} (hg : GOk g) {x y : Nat} {hx : x < g.length} (h : (y : Int) ∈ g[x]) : y < g.length := by have := hg.row_mem hx h; omega
/-- what is asked of edge i -/
def MatchAt (g : List (List Int)) (es : List (List Int)) (i : Nat) : Prop :=
  EdgeOk g (es.getD i []) ∧ (es.getD i []).getD 0 0 ∉ (es.take i).flatten ∧ (es.getD i []).getD 1 0 ∉ (es.take i).flatten ∧ (0 < i → (es.getD (i - 1) []).getD 0 0 < (es.getD i []).getD 0 0)
def IsMatch (g : List (List Int)) (es : List (List Int)) : Prop := ∀ i, i < es.length → MatchAt g es i
theorem flat_len {g : List (List Int)} {es : List (List Int)} : ∀ k, k ≤ es.length → (∀ j, j < k → MatchAt g es j) → (es.take k).flatten.length = 2 * k
  | 0, _, _ => by simp
  | k + 1, hk, h => by
    have h1 := (h k (by omega)).1.1
    have e : es.getD k [] = es[k] := by simp [show k < es.length by omega]
    rw [e] at h1
    rw [take_succ_of (by omega), List.flatten_append, List.length_append, flat_len k (by omega) (fun j hj => h j (by omega))]
    simp [h1]; omega
theorem flat_mem {g : List (List Int)} (hg : GOk g) {es : List (List Int)} {k : Nat} (hk : k ≤ es.length) (h : ∀ j, j < k → MatchAt g es j) : ∀ v ∈ (es.take k).flatten, 0 ≤ v ∧ v < g.length := by
  intro v hv
  rw [List.mem_flatten] at hv
  obtain ⟨e, he, hv⟩ := hv
  rw [List.mem_take_iff_getElem] at he
  obtain ⟨j, hj, rfl⟩ := he
  have h1 := (h j (by omega)).1
  rw [show es.getD j [] = es[j] by simp [show j < es.length by omega]] at h1
  obtain ⟨x, y, e, hxy, hx, hy⟩ := h1.two
  have := edge_lt hg hy
  rw [e] at hv
  simp at hv
  rcases hv with rfl | rfl <;> omega
/-- the first ends rise: there are no more edges than vertices -/
theorem match_le {g : List (List Int)} {es : List (List Int)} (h : IsMatch g es) : es.length ≤ g.length := by
  have key : ∀ i, i < es.length → (i : Int) ≤ (es.getD i []).getD 0 0 := by
    intro i
    induction i with
    | zero => intro hi; exact (h 0 hi).1.2.2.1
    | succ i ih =>
      intro hi
      have h1 := ih (by omega)
      have h2 := (h (i + 1) hi).2.2.2 (by omega)
      rw [Nat.add_sub_cancel] at h2; omega
  rcases Nat.eq_zero_or_pos es.length with e | e
  · omega
  · have h1 := key (es.length - 1) (by omega)
    have h2 := (h (es.length - 1) (by omega)).1.2.2.2.1
    omega
open Classical in
theorem specEdgeIn_eq {g : List (List Int)} (hg : GOk g) (hl : ∀ x ∈ g, x.length ≤ 1048576) (u v : Int) : F_spec_EdgeIn g u v = some (decide (0 ≤ u ∧ u < g.length ∧ v ∈ g.getD u.toNat [])) := by
  have h16 := hg.n16
  unfold F_spec_EdgeIn F_spec_l1There F_spec_l1Size F_spec_l1Edge
  simp only [cal_some_eq]
  rw [cal_of (specGraphOk_eq g hl), if_pos (by simp [hg]), ck_of (inI (by omega) (by omega)), l1In_eq, cal_some_eq, cal_some_eq]
  by_cases hu : 0 ≤ u ∧ u ≤ (g.length : Int) - 1
  case neg =>
    rw [if_neg (by simpa using hu), decide_eq_false]
    intro h; exact hu ⟨h.1, by omega⟩
  rw [if_pos (by simpa using hu)]
  obtain ⟨m, rfl⟩ := Int.eq_ofNat_of_zero_le hu.1
  have hm : m < g.length := by omega
  have e : g.getD (m : Int).toNat [] = g[m] := by simp [hm]
  rw [e, ck_of (inI (by omega) (by omega)), l1In_eq, cal_some_eq, cal_some_eq]
  by_cases hv : 0 ≤ v ∧ v ≤ (g.length : Int) - 1
  case neg =>
    rw [if_neg (by simpa using hv), decide_eq_false]
    intro h; have := hg.row_mem hm h.2.2; exact hv ⟨this.1, by omega⟩
  have := hl _ (List.getElem_mem hm)
  rw [if_pos (by simpa using hv), idx_nat hm, cal_of (l1Has_eq _ _ (by omega))]
  simp [hm]
open Classical in
theorem isEdge_eq {g : List (List Int)} (hg : GOk g) (hgl : g.length ≤ 1048576) (hl : ∀ x ∈ g, x.length ≤ 1048576) (e : List Int) : F_impl_isEdge g e = some (decide (EdgeOk g e)) := by
  have h16 := hg.n16
  unfold F_impl_isEdge F_impl_EdgeIn F_impl_isVertex EdgeOk
  by_cases h2 : e.length = 2
  case neg => rw [if_neg (by omega)]; simp [h2]
  rw [if_pos (by omega)]
  match e, h2 with
  | [a, b], _ =>
    have i0 : ∀ {β : Type} (k : Int → Option β), idx [a, b] 0 k = k a := fun k => idx_of (by decide) rfl
    have i1 : ∀ {β : Type} (k : Int → Option β), idx [a, b] 1 k = k b := fun k => idx_of (by decide) rfl
    rw [i0, i1]
    by_cases hab : a < b
    case neg => rw [if_neg hab]; simp [hab]
    rw [if_pos hab, i0, i1, cal_of (implGraphOk_eq g hgl hl), if_pos (by simp [hg]), ck_of (inI (by omega) (by omega)), cal_of (inRange_eq _ _ _), cal_some_eq]
    by_cases hu : 0 ≤ a ∧ a ≤ (g.length : Int) - 1
    case neg =>
      rw [if_neg (by simpa using hu), cal_some_eq]
      refine congrArg some ?_
      rw [eq_comm, decide_eq_false_iff_not]
      intro h; simp at h; exact hu ⟨h.2.1, by omega⟩
    rw [if_pos (by simpa using hu)]
    obtain ⟨m, rfl⟩ := Int.eq_ofNat_of_zero_le hu.1
    have hm : m < g.length := by omega
    have := hl _ (List.getElem_mem hm)
    rw [idx_nat hm, cal_of (contains_eq _ _ (by omega)), cal_some_eq]
    simp [hm, hab]
theorem mk_and_zero {s t : List Int} (hs : ∀ v ∈ s, 0 ≤ v) (ht : ∀ v ∈ t, 0 ≤ v) : mk s &&& mk t = 0 ↔ ∀ v ∈ s, v ∉ t := by
  constructor
  · intro h v hv hm
    have h1 := hs v hv
    have h2 : (mk s &&& mk t).testBit v.toNat = true := by
      rw [Nat.testBit_and, mk_mem hs, mk_mem ht, show ((v.toNat : Nat) : Int) = v by omega]; simp [hv, hm]
    rw [h] at h2; simp at h2
  · intro h
    apply bits_ext
    intro j
    rw [Nat.testBit_and, mk_mem hs, mk_mem ht, Nat.zero_testBit, Bool.and_eq_false_iff]
    by_cases hj : (j : Int) ∈ s
    · right; simpa using h _ hj
    · left; simpa using hj
theorem mk_append (s t : List Int) : mk (s ++ t) = mk s ||| mk t := by
  apply bits_ext
  intro j
  rw [Nat.testBit_or, mk_bit, mk_bit, mk_bit]
  by_cases h1 : ∃ v ∈ s, v.toNat = j <;> by_cases h2 : ∃ v ∈ t, v.toNat = j
  all_goals simp only [h1, h2, decide_true, decide_false, Bool.or_true, Bool.or_false, Bool.true_or, decide_eq_true_eq, decide_eq_false_iff_not, List.mem_append]
  · obtain ⟨v, hv, e⟩ := h1; exact ⟨v, .inl hv, e⟩
  · obtain ⟨v, hv, e⟩ := h1; exact ⟨v, .inl hv, e⟩
  · obtain ⟨v, hv, e⟩ := h2; exact ⟨v, .inr hv, e⟩
  · rintro ⟨v, hv | hv, e⟩
    · exact h1 ⟨v, hv, e⟩
    · exact h2 ⟨v, hv, e⟩
end Go.Proofs.Ythbmcbflnibpbac

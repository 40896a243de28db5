/- Matchings: which lists of edges are one. -/
import Derived.Test.YtadjcnllmkdgiaaDoorBitF
import Derived.Test.YtadjcnllmkdgiaaDoorSetF
namespace Go.Proofs.YtadjcnllmkdgiaaDoor
/-- of a good graph: an edge, its lesser end first -/
def EdgeOk (g : List (List Int)) (e : List Int) : Prop := e.length = 2 ∧ e.getD 0 0 < e.getD 1 0 ∧ 0 ≤ e.getD 0 0 ∧ e.getD 0 0 < g.length ∧ e.getD 1 0 ∈ g.getD (e.getD 0 0).toNat []
theorem EdgeOk.two {g : List (List Int)} {e : List Int} (h : EdgeOk g e) : ∃ x y : Nat, e = [(x : Int), (y : Int)] ∧ x < y ∧ ∃ hx : x < g.length, (y : Int) ∈ g[x] := by
  obtain ⟨h1, h2, h3, h4, h5⟩ := h
  match e, h1 with
  | [a, b], _ =>
    simp only [List.getD_cons_zero, List.getD_cons_succ] at h2 h3 h4 h5
    obtain ⟨x, rfl⟩ := Int.eq_ofNat_of_zero_le h3
    obtain ⟨y, rfl⟩ := Int.eq_ofNat_of_zero_le (by omega : 0 ≤ b)
    have hx : x < g.length := by omega
    refine ⟨x, y, rfl, by omega, hx, ?_⟩
    simpa [hx] using h5
theorem edge_lt {g : List (List Int)} (hg : GOk g) {x y : Nat} {hx : x < g.length} (h : (y : Int) ∈ g[x]) : y < g.length := by have := hg.row_mem hx h; omega
/-- what is asked of edge i -/
def MatchAt (g : List (List Int)) (es : List (List Int)) (i : Nat) : Prop :=
  EdgeOk g (es.getD i []) ∧ (es.getD i []).getD 0 0 ∉ (es.take i).flatten ∧ (es.getD i []).getD 1 0 ∉ (es.take i).flatten ∧ (0 < i → (es.getD (i - 1) []).getD 0 0 < (es.getD i []).getD 0 0)
def IsMatch (g : List (List Int)) (es : List (List Int)) : Prop := ∀ i, i < es.length → MatchAt g es i
theorem flat_len {g : List (List Int)} {es : List (List Int)} : ∀ k, k ≤ es.length → (∀ j, j < k → MatchAt g es j) → (es.take k).flatten.length = 2 * k
  | 0, _, _ => by simp
  | k + 1, hk, h => by
    have h1 := (h k (by omega)).1.1
    have e : es.getD k [] = es[k] := by simp [show k < es.length by omega]
    rw [e] at h1
    rw [take_succ_of (by omega), List.flatten_append, List.length_append, flat_len k (by omega) (fun j hj => h j (by omega))]
    simp [h1]; omega
theorem flat_mem {g : List (List Int)} (hg : GOk g) {es : List (List Int)} {k : Nat} (hk : k ≤ es.length) (h : ∀ j, j < k → MatchAt g es j) : ∀ v ∈ (es.take k).flatten, 0 ≤ v ∧ v < g.length := by
  intro v hv
  rw [List.mem_flatten] at hv
  obtain ⟨e, he, hv⟩ := hv
  rw [List.mem_take_iff_getElem] at he
  obtain ⟨j, hj, rfl⟩ := he
  have h1 := (h j (by omega)).1
  rw [show es.getD j [] = es[j] by simp [show j < es.length by omega]] at h1
  obtain ⟨x, y, e, hxy, hx, hy⟩ := h1.two
  have := edge_lt hg hy
  rw [e] at hv
  simp at hv
  rcases hv with rfl | rfl <;> omega
/-- the first ends rise: there are no more edges than vertices -/
theorem match_le {g : List (List Int)} {es : List (List Int)} (h : IsMatch g es) : es.length ≤ g.length := by
  have key : ∀ i, i < es.length → (i : Int) ≤ (es.getD i []).getD 0 0 := by
    intro i
    induction i with
    | zero => intro hi; exact (h 0 hi).1.2.2.1
    | succ i ih =>
      intro hi
      have h1 := ih (by omega)
      have h2 := (h (i + 1) hi).2.2.2 (by omega)
      rw [Nat.add_sub_cancel] at h2; omega
  rcases Nat.eq_zero_or_pos es.length with e | e
  · omega
  · have h1 := key (es.length - 1) (by omega)
    have h2 := (h (es.length - 1) (by omega)).1.2.2.2.1
    omega
theorem mk_and_zero {s t : List Int} (hs : ∀ v ∈ s, 0 ≤ v) (ht : ∀ v ∈ t, 0 ≤ v) : mk s &&& mk t = 0 ↔ ∀ v ∈ s, v ∉ t := by
  constructor
  · intro h v hv hm
    have h1 := hs v hv
    have h2 : (mk s &&& mk t).testBit v.toNat = true := by
      rw [Nat.testBit_and, mk_mem hs, mk_mem ht, show ((v.toNat : Nat) : Int) = v by omega]; simp [hv, hm]
    rw [h] at h2; simp at h2
  · intro h
    apply bits_ext
    intro j
    rw [Nat.testBit_and, mk_mem hs, mk_mem ht, Nat.zero_testBit, Bool.and_eq_false_iff]
    by_cases hj : (j : Int) ∈ s
    · right; simpa using h _ hj
    · left; simpa using hj
theorem mk_append (s t : List Int) : mk (s ++ t) = mk s ||| mk t := by
  apply bits_ext
  intro j
  rw [Nat.testBit_or, mk_bit, mk_bit, mk_bit]
  by_cases h1 : ∃ v ∈ s, v.toNat = j <;> by_cases h2 : ∃ v ∈ t, v.toNat = j
  all_goals simp only [h1, h2, decide_true, decide_false, Bool.or_true, Bool.or_false, Bool.true_or, decide_eq_true_eq, decide_eq_false_iff_not, List.mem_append]
  · obtain ⟨v, hv, e⟩ := h1; exact ⟨v, .inl hv, e⟩
  · obtain ⟨v, hv, e⟩ := h1; exact ⟨v, .inl hv, e⟩
  · obtain ⟨v, hv, e⟩ := h2; exact ⟨v, .inr hv, e⟩
  · rintro ⟨v, hv | hv, e⟩
    · exact h1 ⟨v, hv, e⟩
    · exact h2 ⟨v, hv, e⟩
end Go.Proofs.YtadjcnllmkdgiaaDoor

/- Colourings of a graph counted: none when there are too few colours, all when there is no edge. -/
import Derived.Test.YtadjcnllmkdgiaaGDel
import Derived.Test.YtadjcnllmkdgiaaColCount
namespace Go.Proofs.Ytadjcnllmkdgiaa
open Classical in
theorem many_congr {E E' : Nat → Nat → Prop} {k n : Nat} (h : ∀ x y, x < n → y < n → (E x y ↔ E' x y)) : many E k n = many E' k n := by
  unfold many
  refine List.countP_congr fun r hr => ?_
  have hl := (mem_ext.1 hr).1
  simp only [List.length_nil, Nat.zero_add] at hl
  simp only [decide_eq_true_eq]
  exact ⟨fun ha x y hx hy hxy => ha x y hx hy ((h x y (by omega) (by omega)).2 hxy), fun ha x y hx hy hxy => ha x y hx hy ((h x y (by omega) (by omega)).1 hxy)⟩
theorem ext_len {k : Nat} : ∀ {m : Nat} {p : List Nat}, (ext k m p).length = k ^ m
  | 0, p => by simp [ext]
  | m + 1, p => by
    rw [ext, List.length_flatMap, sum_const _ (k ^ m) _ fun c _ => ext_len, List.length_range, Nat.pow_succ, Nat.mul_comm]
open Classical in
theorem many_le (E : Nat → Nat → Prop) (k n : Nat) : many E k n ≤ k ^ n := by
  unfold many
  rw [← ext_len (k := k) (m := n) (p := [])]
  exact List.countP_le_length
open Classical in
theorem many_free {E : Nat → Nat → Prop} {k n : Nat} (h : ∀ x y, ¬ E x y) : many E k n = k ^ n := by
  unfold many
  rw [← ext_len (k := k) (m := n) (p := []), List.countP_eq_length]
  exact fun r _ => decide_eq_true fun x y _ _ hxy => absurd hxy (h x y)
open Classical in
theorem many_pos {g : List (List Int)} {n : Nat} {E : Nat → Nat → Prop} (h : Has g n E) {k : Nat} : 0 < many E k n ↔ chrom (nb g) ≤ k := by
  have hl := h.len
  have hnl := nb_len g
  unfold many
  rw [List.countP_pos_iff, chrom_le_iff, hnl, hl]
  constructor
  · rintro ⟨r, hr, hA⟩
    obtain ⟨h1, _, h3⟩ := mem_ext.1 hr
    simp only [List.length_nil, Nat.zero_add] at h1
    have hA' := of_decide_eq_true hA
    refine ⟨fun v => r.getD v 0, fun v hv => ?_, fun u v huv hv hb => ?_⟩
    · show r.getD v 0 < k
      rw [show r.getD v 0 = r[v]'(by omega) by simp [show v < r.length by omega]]
      exact h3 v (by omega) (Nat.zero_le _)
    · exact fun e => hA' v u (by omega) (by omega) ((h.bit hv).1 hb) e.symm
  · rintro ⟨f, hf1, hf2⟩
    refine ⟨(List.range n).map f, mem_ext.2 ⟨by simp, by simp, fun i hi _ => ?_⟩, decide_eq_true fun x y hx hy hxy => ?_⟩
    · rw [List.getElem_map, List.getElem_range]
      exact hf1 i (by simpa using hi)
    · simp only [List.length_map, List.length_range] at hx hy
      have ex : ((List.range n).map f).getD x 0 = f x := by simp [hx]
      have ey : ((List.range n).map f).getD y 0 = f y := by simp [hy]
      rw [ex, ey]
      rcases Nat.lt_trichotomy x y with g1 | g1 | g1
      · exact hf2 x y g1 hy ((h.bit hy).2 (h.rng _ _ hxy).2.2.2)
      · exact absurd g1 (h.rng _ _ hxy).2.2.1
      · exact fun e => hf2 y x g1 hx ((h.bit hx).2 hxy) e.symm
theorem col_pos {g : List (List Int)} {n : Nat} {E : Nat → Nat → Prop} (h : Has g n E) {k : Nat} : 0 < col (nb g) k n [] ↔ chrom (nb g) ≤ k := by
  rw [← many_pos h, col_many (E := E) (n := n) (fun x y hxy => (h.rng _ _ hxy).2.2.2) (fun x hxx => (h.rng _ _ hxx).2.2.1 rfl) fun w u hw hu => h.bit hw]
end Go.Proofs.Ytadjcnllmkdgiaa

/- Orders of a graph's vertices: sorted, they rise. -/
import Derived.Test.YtadjcnllmkdgiaaDoorPath
namespace Go.Proofs.YtadjcnllmkdgiaaDoor
def srt (o : List Int) : List Int := o.mergeSort fun x y => decide (x ≤ y)
theorem srt_perm (o : List Int) : (srt o).Perm o := List.mergeSort_perm o _
theorem srt_len (o : List Int) : (srt o).length = o.length := (srt_perm o).length_eq
theorem srt_sorted (o : List Int) : (srt o).Pairwise (· ≤ ·) := by
  have := List.pairwise_mergeSort (le := fun x y : Int => decide (x ≤ y)) (fun a b c h1 h2 => by simp only [decide_eq_true_eq] at *; omega) (fun a b => by simp only [Bool.or_eq_true, decide_eq_true_eq]; omega) o
  exact this.imp fun h => by simpa using h
theorem mem_srt {o : List Int} {x : Int} : x ∈ srt o ↔ x ∈ o := (srt_perm o).mem_iff
theorem pairwise_lt {l : List Int} (h : l.Pairwise (· ≤ ·)) (hn : l.Nodup) : l.Pairwise (· < ·) := by
  have := List.Pairwise.and h hn
  exact this.imp fun h => by omega
/-- each number below n once at most -/
def IsOrder (n : Nat) (o : List Int) : Prop := o.length = n ∧ (∀ x ∈ o, 0 ≤ x ∧ x < n) ∧ o.Nodup
theorem rises_iff {s : List Int} {n : Nat} : Rises s n ↔ (∀ x ∈ s, 0 ≤ x ∧ x < n) ∧ s.Pairwise (· < ·) := by
  constructor
  · intro h
    refine ⟨fun x hx => h.mem hx, List.pairwise_iff_getElem.2 ?_⟩
    have key : ∀ d i (hi : i + d + 1 < s.length), s[i] < s[i + d + 1] := by
      intro d
      induction d with
      | zero => intro i hi; have := (h (i + 1) hi).2.2 (by omega); simpa using this
      | succ d ih =>
        intro i hi
        have h1 := ih i (by omega)
        have h2 := (h (i + (d + 1) + 1) hi).2.2 (by omega)
        exact Int.lt_trans h1 h2
    intro i j hi hj hij
    have := key (j - i - 1) i (by omega)
    have e : i + (j - i - 1) + 1 = j := by omega
    simpa only [e] using this
  · rintro ⟨h1, h2⟩ k hk
    have := h1 _ (List.getElem_mem hk)
    exact ⟨this.1, by omega, fun h0 => List.pairwise_iff_getElem.1 h2 (k - 1) k (by omega) hk (by omega)⟩
theorem rises_srt {o : List Int} {n : Nat} : Rises (srt o) n ↔ (∀ x ∈ o, 0 ≤ x ∧ x < n) ∧ o.Nodup := by
  rw [rises_iff]
  constructor
  · rintro ⟨h1, h2⟩
    exact ⟨fun x hx => h1 x (mem_srt.2 hx), (srt_perm o).nodup_iff.1 (h2.imp fun h => by omega)⟩
  · rintro ⟨h1, h2⟩
    exact ⟨fun x hx => h1 x (mem_srt.1 hx), pairwise_lt (srt_sorted o) ((srt_perm o).nodup_iff.2 h2)⟩
theorem sorted_eq {o : List Int} (h : o.length ≤ 1099511627776) : F_slices_Sorted_int64 o = some (srt o) := by
  unfold F_slices_Sorted_int64 F_slices_Collect_int64 F_slices_Sort_int64
  rw [if_pos h, cal_some_eq, if_pos h, cal_some_eq]; rfl
open Classical in
theorem implOrderOk_eq (g : List (List Int)) (o : List Int) (hgl : g.length ≤ 1048576) (hl : ∀ x ∈ g, x.length ≤ 1048576) (ho : o.length ≤ 1048576) : F_impl_OrderOk g o = some (decide (GOk g ∧ IsOrder g.length o)) := by
  unfold F_impl_OrderOk F_slices_Values_int64
  rw [cal_of (implGraphOk_eq g hgl hl)]
  by_cases hg : GOk g
  case neg => rw [if_pos (by simpa using hg)]; exact congrArg some (decide_eq_false (fun h => hg h.1)).symm
  rw [if_neg (by simpa using hg)]
  by_cases h1 : o.length = g.length
  case neg => rw [if_pos (by omega)]; exact congrArg some (decide_eq_false (fun h => h1 h.2.1)).symm
  rw [if_neg (by omega), cal_some_eq, cal_of (sorted_eq (by omega)), cal_of (increasing_eq _ _ (by rw [srt_len]; omega) (by omega) (by omega))]
  congr 1
  rw [decide_eq_decide, rises_srt]
  exact ⟨fun h => ⟨hg, h1, h⟩, fun h => h.2.2⟩
theorem nodup_take {o : List Int} : o.Nodup ↔ ∀ k (h : k < o.length), o[k] ∉ o.take k := by
  constructor
  · intro h k hk hm
    rw [List.mem_take_iff_getElem] at hm
    obtain ⟨j, hj, e⟩ := hm
    exact List.pairwise_iff_getElem.1 h j k (by omega) hk (by omega) e
  · intro h
    refine List.pairwise_iff_getElem.2 fun i j hi hj hij e => h j hj ?_
    rw [List.mem_take_iff_getElem]
    exact ⟨i, by omega, e⟩
def RingIs (g : List (List Int)) (o : List Int) : Prop := (GOk g ∧ IsOrder g.length o) ∧ o.getD 0 0 = 0
theorem order_pos {g : List (List Int)} {o : List Int} (h : GOk g ∧ IsOrder g.length o) : 0 < o.length := by have := h.1.n1; have := h.2.1; omega
theorem idx_zero {β : Type} {o : List Int} (h : 0 < o.length) (q : Int → Option β) : idx o 0 q = q (o.getD 0 0) := by
  rw [show (0 : Int) = ((0 : Nat) : Int) from rfl, idx_nat h]; simp [h]
/-- a path whose ends are neighbours -/
def LoopIs (g : List (List Int)) (o : List Int) : Prop := GOk g ∧ 3 ≤ o.length ∧ IsPath g o ∧ o.getD (o.length - 1) 0 ∈ g.getD (o.getD 0 0).toNat []
end Go.Proofs.YtadjcnllmkdgiaaDoor

/- Lines: lists that have each number below their length once. -/
import Derived.Test.YtbcjeljppgojgaaDoorRing
import Derived.Test.YtbcjeljppgojgaaDoorParts
namespace Go.Proofs.YtbcjeljppgojgaaDoor
def Line (a : List Int) : Prop := (1 ≤ a.length ∧ a.length ≤ 16) ∧ IsOrder a.length a
def Lines (a b : List Int) : Prop := Line a ∧ Line b ∧ a.length = b.length
open Classical in
theorem placesIn_all {o : List Int} (ho : o.length ≤ 1048576) : F_impl_placesIn o = some (if Line o then (placesOf o.length o, true) else ([], false)) := by
  by_cases h : Line o
  · rw [if_pos h, placesIn_eq h.2 h.1.1 h.1.2]
  · rw [if_neg h]
    unfold F_impl_placesIn F_slices_Values_int64
    by_cases c1 : 1 ≤ o.length
    case neg => rw [if_pos (by omega)]
    rw [if_neg (by omega)]
    by_cases c2 : o.length ≤ 16
    case neg => rw [if_pos (by omega)]
    rw [if_neg (by omega), cal_some_eq, cal_of (sorted_eq (by omega)), cal_of (increasing_eq _ _ (by rw [srt_len]; omega) (by omega) (by omega)), if_pos ?_]
    rw [decide_eq_true_iff, rises_srt]
    exact fun k => h ⟨⟨c1, c2⟩, rfl, k⟩
open Classical in
theorem l15Line_eq (a : List Int) (ha : a.length ≤ 1048576) : F_spec_l15Line a = some (decide (Line a)) := by
  unfold F_spec_l15Line
  rw [l1In_eq, cal_some_eq]
  by_cases c : 1 ≤ a.length ∧ a.length ≤ 16
  case neg => rw [if_pos (by rw [decide_eq_true_iff]; omega)]; exact congrArg some (decide_eq_false (fun h => c h.1)).symm
  rw [if_neg (by rw [decide_eq_true_iff]; omega)]
  have key := lp_allC (step := fun s => F_spec_l15Line_l1 a s) (fun k => (k : Int)) a.length (fun k => ∀ h : k < a.length, (0 ≤ a[k] ∧ a[k] < a.length) ∧ a[k] ∉ a.take k) (IsOrder a.length a) (oT := .inl ()) (oF := .inr false) ?_ ?_ ?_ ?_
  · rw [show ((0 : Nat) : Int) = 0 from rfl] at key
    rw [key, bnd_if]
    unfold F_spec_l15Line_k2
    split
    · rename_i hq; rw [decide_eq_true (show Line a from ⟨c, hq⟩)]
    · rename_i hq; rw [decide_eq_false (fun h : Line a => hq h.2)]
  · constructor
    · rintro ⟨_, h2, h3⟩ k _ hk
      exact ⟨h2 _ (List.getElem_mem hk), nodup_take.1 h3 k hk⟩
    · intro h
      refine ⟨rfl, fun x hx => ?_, nodup_take.2 fun k hk => (h k hk hk).2⟩
      obtain ⟨k, hk, rfl⟩ := List.getElem_of_mem hx
      exact (h k hk hk).1
  · intro k hk _ hp
    obtain ⟨p1, p2⟩ := hp hk
    simp only [F_spec_l15Line_l1]
    rw [if_pos (by omega), idx_nat hk, ck_of (inI (by omega) (by omega)), l1In_eq, cal_some_eq, if_neg (by simp; omega), slc_of ⟨by decide, by omega, by omega⟩, idx_nat hk, show (0 : Int).toNat = 0 from rfl, List.drop_zero, Int.toNat_natCast, Nat.sub_zero, cal_of (l1Has_eq _ _ (by rw [List.length_take]; omega)), if_neg (by simpa using p2), ck_of (inI (by omega) (by omega))]; rfl
  · intro k hk _ hp
    simp only [F_spec_l15Line_l1]
    rw [if_pos (by omega), idx_nat hk, ck_of (inI (by omega) (by omega)), l1In_eq, cal_some_eq]
    by_cases h2 : 0 ≤ a[k] ∧ a[k] ≤ (a.length : Int) - 1
    case neg => rw [if_pos (by simpa using h2)]
    have p2 : a[k] ∈ a.take k := Classical.byContradiction fun h => hp fun _ => ⟨⟨h2.1, by omega⟩, h⟩
    rw [if_neg (by simpa using h2), slc_of ⟨by decide, by omega, by omega⟩, idx_nat hk, show (0 : Int).toNat = 0 from rfl, List.drop_zero, Int.toNat_natCast, Nat.sub_zero, cal_of (l1Has_eq _ _ (by rw [List.length_take]; omega)), if_pos (by simpa using p2)]
  · intro _
    simp only [F_spec_l15Line_l1]
    rw [if_neg (by omega)]
open Classical in
theorem l15Lines_eq (a b : List Int) (ha : a.length ≤ 1048576) (hb : b.length ≤ 1048576) : F_spec_l15Lines a b = some (decide (Lines a b)) := by
  unfold F_spec_l15Lines
  rw [cal_of (l15Line_eq a ha)]
  by_cases h1 : Line a
  case neg => rw [if_neg (by simpa using h1)]; exact congrArg some (decide_eq_false (fun h => h1 h.1)).symm
  rw [if_pos (by simpa using h1), cal_of (l15Line_eq b hb)]
  by_cases h2 : Line b
  case neg => rw [if_neg (by simpa using h2)]; exact congrArg some (decide_eq_false (fun h => h2 h.2.1)).symm
  rw [if_pos (by simpa using h2)]
  congr 1
  rw [decide_eq_decide]
  exact ⟨fun h => ⟨h1, h2, by omega⟩, fun h => by have := h.2.2; omega⟩
open Classical in
theorem crossings_ok (a b : List Int) (ha : a.length ≤ 1048576) (hb : b.length ≤ 1048576) : ∃ r : List (BitVec 32) × Bool, F_impl_crossings a b = some r ∧ r.2 = decide (Lines a b) := by
  unfold F_impl_crossings
  rw [cal_of (placesIn_all ha), cal_of (placesIn_all hb)]
  by_cases h1 : Line a
  case neg =>
    rw [if_neg h1, if_pos (by simp)]
    exact ⟨_, rfl, (decide_eq_false (fun h => h1 h.1)).symm⟩
  rw [if_pos h1, if_neg (by simp)]
  by_cases h2 : Line b
  case neg =>
    rw [if_neg h2, if_pos (by simp)]
    exact ⟨_, rfl, (decide_eq_false (fun h => h2 h.2.1)).symm⟩
  rw [if_pos h2, if_neg (by simp)]
  by_cases h3 : a.length = b.length
  case neg =>
    rw [if_pos (by omega)]
    exact ⟨_, rfl, (decide_eq_false (fun h => h3 h.2.2)).symm⟩
  rw [if_neg (by omega), mkS_of (by omega) (by unfold lim; omega), Int.toNat_natCast]
  have hn := h1.1
  have P : ∀ {β : Type} (o : List Int) (v : Nat) (hv : v < o.length) (q : Int → Option β), idx (placesOf o.length o) (v : Int) q = q (o.idxOf (v : Int)) := fun o v hv q => by unfold placesOf; exact ridx hv
  have hpl : (placesOf a.length a).length = a.length := by unfold placesOf; simp
  have outer := lp_ex (step := fun s => F_impl_crossings_l1 (placesOf a.length a, true) (placesOf b.length b, true) s.1 s.2) (fun k (t : List (BitVec 32)) => (t, (k : Int))) a.length (fun _ t => t.length = a.length) (fun o => ∃ t, o = .inl t) ?_ ?_ a.length 0 (List.replicate a.length 0) (by omega) (by simp)
  · obtain ⟨o, ho, t, rfl⟩ := outer
    rw [show (((0 : Nat) : Int)) = 0 from rfl] at ho
    rw [bnd_l ho]
    exact ⟨_, rfl, (decide_eq_true (show Lines a b from ⟨h1, h2, h3⟩)).symm⟩
  · intro u t hu ht
    have inner := lp_ex (step := fun s => F_impl_crossings_l2 (placesOf a.length a, true) (placesOf b.length b, true) (u : Int) s.1 s.2) (fun k (t : List (BitVec 32)) => (t, (k : Int))) u (fun _ t => t.length = a.length) (fun o => ∃ t : List (BitVec 32), o = .inl t ∧ t.length = a.length) ?_ ?_ u 0 t (by omega) ht
    · obtain ⟨o, ho, t', rfl, ht'⟩ := inner
      rw [show (((0 : Nat) : Int)) = 0 from rfl] at ho
      refine ⟨t', ?_, ht'⟩
      simp only [F_impl_crossings_l1]
      rw [hpl, if_pos (by omega), bnd_l ho]
      unfold F_impl_crossings_k3
      rw [ck_of (inI (by omega) (by omega))]; rfl
    · intro v s hv hs
      simp only [F_impl_crossings_l2]
      rw [if_pos (by omega), P a u hu, P a v (by omega), P b u (by omega), P b v (by omega)]
      split
      · have hu' : u < s.length := by omega
        have hv' : v < (s.set u (s[u] ||| BitVec.ofNat 32 (2 ^ v))).length := by rw [List.length_set]; omega
        refine ⟨(s.set u (s[u] ||| BitVec.ofNat 32 (2 ^ v))).set v ((s.set u (s[u] ||| BitVec.ofNat 32 (2 ^ v)))[v] ||| BitVec.ofNat 32 (2 ^ u)), ?_, by rw [List.length_set, List.length_set]; exact hs⟩
        unfold F_impl_nets_join
        rw [idx_nat hu', cal_of (one_eq (by omega)), idx_nat hu', Int.toNat_natCast, idx_nat hv', cal_of (one_eq (by omega)), idx_nat hv', Int.toNat_natCast, cal_some_eq, ck_of (inI (by omega) (by omega))]; rfl
      · exact ⟨s, by rw [ck_of (inI (by omega) (by omega))]; rfl, hs⟩
    · intro s hs
      refine ⟨_, ?_, s, rfl, hs⟩
      simp only [F_impl_crossings_l2]
      rw [if_neg (by omega)]
  · intro t ht
    refine ⟨_, ?_, t, rfl⟩
    simp only [F_impl_crossings_l1]
    rw [hpl, if_neg (by omega)]
/-- turned from both ends, k steps -/
def rvTo (l : List Int) (k : Nat) : List Int := (List.range l.length).map fun i => if i < k ∨ l.length - k ≤ i then l.getD (l.length - 1 - i) 0 else l.getD i 0
theorem rvTo_zero (l : List Int) : rvTo l 0 = l := by
  unfold rvTo
  apply List.ext_getElem
  · simp
  · intro i h1 h2
    simp only [List.getElem_map, List.getElem_range]
    rw [if_neg (by omega), List.getD_eq_getElem?_getD, List.getElem?_eq_getElem h2]; rfl
theorem rvTo_end {l : List Int} {k : Nat} (h : l.length ≤ 2 * k + 1) : rvTo l k = l.reverse := by
  unfold rvTo
  apply List.ext_getElem
  · simp
  · intro i h1 h2
    simp only [List.length_map, List.length_range] at h1
    simp only [List.getElem_map, List.getElem_range, List.getElem_reverse]
    split
    · rw [List.getD_eq_getElem?_getD, List.getElem?_eq_getElem (by omega)]; rfl
    · rename_i hn
      have e : l.length - 1 - i = i := by omega
      simp only [e]
      rw [List.getD_eq_getElem?_getD, List.getElem?_eq_getElem (by omega)]; rfl
theorem rvTo_at {l : List Int} {k i : Nat} (h1 : k ≤ i) (h2 : i < l.length - k) : ∃ h : i < (rvTo l k).length, (rvTo l k)[i] = l.getD i 0 := by
  refine ⟨by unfold rvTo; simp; omega, ?_⟩
  unfold rvTo
  simp only [List.getElem_map, List.getElem_range]
  rw [if_neg (by omega)]
theorem rvTo_step {l : List Int} {k : Nat} (h : 2 * k + 1 < l.length) : ((rvTo l k).set k (l.getD (l.length - 1 - k) 0)).set (l.length - 1 - k) (l.getD k 0) = rvTo l (k + 1) := by
  unfold rvTo
  apply List.ext_getElem
  · simp
  · intro i h1 h2
    simp only [List.length_map, List.length_range] at h2
    rw [List.getElem_set, List.getElem_set]
    simp only [List.getElem_map, List.getElem_range]
    by_cases e1 : l.length - 1 - k = i
    · rw [if_pos e1, if_pos (by omega)]; congr 1; omega
    · rw [if_neg e1]
      by_cases e2 : k = i
      · rw [if_pos e2, if_pos (by omega), ← e2]
      · rw [if_neg e2]
        by_cases e3 : i < k ∨ l.length - k ≤ i
        · rw [if_pos e3, if_pos (by omega)]
        · rw [if_neg e3, if_neg (by omega)]
end Go.Proofs.YtbcjeljppgojgaaDoor

/- The longest lists: the reference's side, and what both give. -/
import Derived.Test.YtbcjeljppgojgaaDoorLongestM
namespace Go.Proofs.YtbcjeljppgojgaaDoor
section
variable {a b : List Int} {cr : Bool}
theorem l15Place_eq (hl : Line a) {v : Nat} (hv : v < a.length) : F_spec_l15Place a (v : Int) = some (a.idxOf (v : Int) : Int) := by
  have h16 := hl.1.2
  have hp := pa_lt hl hv
  unfold F_spec_l15Place
  have key := lp_upto (step := fun s => F_spec_l15Place_l1 a (v : Int) s) (fun k => (k : Int)) (a.idxOf (v : Int)) (s := 0) rfl (fun k hk => ?_) (o := .inr (a.idxOf (v : Int) : Int)) ?_
  · rw [key]; rfl
  · have hk' : k < a.length := by omega
    have hne : a[k] ≠ (v : Int) := fun e => by
      have := hl.2.2.2.idxOf_getElem k hk'
      rw [e] at this; omega
    simp only [F_spec_l15Place_l1]
    rw [if_pos (by omega), idx_nat hk', if_neg hne, ck_of (inI (by omega) (by omega))]; rfl
  · simp only [F_spec_l15Place_l1]
    rw [if_pos (by omega), idx_nat hp, if_pos (List.getElem_idxOf hp)]
theorem l15Cross_eq (hab : Lines a b) {u v : Nat} (hu : u < a.length) (hv : v < a.length) (hne : u ≠ v) : F_spec_l15Cross a b (u : Int) (v : Int) = some (crossV a b u v) := by
  obtain ⟨h1, h2, h3⟩ := hab
  unfold F_spec_l15Cross
  rw [if_pos (by omega), cal_of (l15Place_eq h1 hu), cal_of (l15Place_eq h1 hv), cal_of (l15Place_eq h2 (by omega)), cal_of (l15Place_eq h2 (by omega))]
  unfold crossV
  simp only [Int.ofNat_lt]
/-- those that come behind place i, from among the next m -/
def behind (a b : List Int) (cr : Bool) (i m : Nat) : List (List Int) := ((List.range' (i + 1) m).filter fun j => folV a b cr (av a i) (av a j)).map fun j => lgV a b cr (av a j)
theorem behind_all (hl : Line a) {i : Nat} (hi : i < a.length) : bst (behind a b cr i (a.length - 1 - i)) = bst (((List.range a.length).filter (folV a b cr (av a i))).map (lgV a b cr)) := by
  refine bst_set fun x => ?_
  unfold behind
  rw [List.mem_map, List.mem_map]
  constructor
  · rintro ⟨j, hj, rfl⟩
    rw [List.mem_filter, List.mem_range'_1] at hj
    obtain ⟨_, h2, _⟩ := av_spec hl (show j < a.length by omega)
    exact ⟨av a j, by rw [List.mem_filter, List.mem_range]; exact ⟨h2, hj.2⟩, rfl⟩
  · rintro ⟨u, hu, rfl⟩
    rw [List.mem_filter, List.mem_range] at hu
    have h1 := folV_lt hu.2
    have h2 := (av_spec hl hi).2.2
    have h3 := pa_lt hl hu.1
    refine ⟨a.idxOf (u : Int), ?_, by rw [av_pa hl hu.1]⟩
    rw [List.mem_filter, List.mem_range'_1, av_pa hl hu.1]
    exact ⟨by omega, hu.2⟩
theorem better_ifs {x y : List Int} {β : Type} {p q : Option β} (hx : x.length ≤ 1048576) : (if (y.length : Int) < (x.length : Int) then p else if (x.length : Int) = (y.length : Int) then cal (F_spec_l1Less x y) (fun c => if c = true then p else q) else q) = if better x y = true then p else q := by
  by_cases h1 : y.length < x.length
  · rw [if_pos (by omega), if_pos (better_iff.2 (.inl h1))]
  · rw [if_neg (by omega)]
    by_cases h2 : x.length = y.length
    · rw [if_pos (by omega), cal_of (l1Less_eq h2 hx)]
      by_cases h3 : lexL x y = true
      · rw [if_pos h3, if_pos (better_iff.2 (.inr ⟨h2, h3⟩))]
      · rw [if_neg h3, if_neg (fun h => (better_iff.1 h).elim h1 (fun h => h3 h.2))]
    · rw [if_neg (by omega), if_neg (fun h => (better_iff.1 h).elim h1 (fun h => h2 h.1))]
theorem l15Long_eq (hab : Lines a b) {i : Nat} (hi : i < a.length) : F_spec_l15Long a b (i : Int) cr = some (lgV a b cr (av a i)) := by
  have hl := hab.1
  have h16 := hl.1.2
  refine fixO_ind (J := Nat) (fun j => (a, b, (j : Int), cr)) (fun j => a.length - j) (fun j => lgV a b cr (av a j)) (fun j => j < a.length) ?_ i hi
  intro R i hi ih
  obtain ⟨e1, e2, e3⟩ := av_spec hl hi
  have hbl : ∀ m, (bst (behind a b cr i m)).length ≤ 16 := fun m => by
    rcases bst_mem (behind a b cr i m) with e | e
    · rw [e]; simp
    · unfold behind at e
      obtain ⟨u, _, hu⟩ := List.mem_map.1 e
      have hu' : lgV a b cr (av a u) = bst (behind a b cr i m) := hu
      rw [← hu']; have := lgV_len (a := a) (b := b) (cr := cr) (av a u); omega
  unfold F_spec_l15Long_body
  dsimp only
  rw [ck_of (inI (by omega) (by omega))]
  have key := lp_upto (step := fun s => F_spec_l15Long_l1 a b (i : Int) cr (fun z0 z1 z2 z3 => R (z0, z1, z2, z3)) s.1 s.2) (fun m => (bst (behind a b cr i m), ((i + 1 + m : Nat) : Int))) (a.length - 1 - i) (s := (([] : List Int), (i : Int) + 1)) (by simp [behind, bst, bstF]) (fun m hm => ?_) (o := .inl (bst (behind a b cr i (a.length - 1 - i)))) ?_
  · rw [bnd_l key]
    unfold F_spec_l15Long_k2
    have hb := hbl (a.length - 1 - i)
    rw [idx_nat hi, app_s (show [a[i]].length + (bst (behind a b cr i (a.length - 1 - i))).length ≤ 1099511627776 by rw [List.length_singleton]; omega), behind_all hl hi, lgV_eq hl e2, e1]; rfl
  · have hj : i + 1 + m < a.length := by omega
    obtain ⟨f1, f2, f3⟩ := av_spec hl hj
    have hne : av a i ≠ av a (i + 1 + m) := fun e => by rw [e, f3] at e3; omega
    simp only [F_spec_l15Long_l1]
    rw [if_pos (by omega), idx_nat hi, idx_nat hj, e1, f1, cal_of (l15Cross_eq hab e2 f2 hne)]
    have hfol : folV a b cr (av a i) (av a (i + 1 + m)) = (crossV a b (av a i) (av a (i + 1 + m)) == cr) := by
      unfold folV
      rw [decide_eq_true (show a.idxOf (av a i : Int) < a.idxOf (av a (i + 1 + m) : Int) by omega), Bool.true_and]
    have hbeh : behind a b cr i (m + 1) = behind a b cr i m ++ (if (crossV a b (av a i) (av a (i + 1 + m)) == cr) = true then [lgV a b cr (av a (i + 1 + m))] else []) := by
      unfold behind
      rw [List.range'_concat, Nat.one_mul, List.filter_append, List.map_append]
      congr 1
      rw [List.filter_cons, hfol]
      split <;> rfl
    have hnx : ((i + 1 + m : Nat) : Int) + 1 = ((i + 1 + (m + 1) : Nat) : Int) := by omega
    by_cases c : crossV a b (av a i) (av a (i + 1 + m)) = cr
    · have hbeh2 : behind a b cr i (m + 1) = behind a b cr i m ++ [lgV a b cr (av a (i + 1 + m))] := by rw [hbeh, if_pos (by simp [c])]
      rw [if_neg (by simp [c]), cal_of (ih (i + 1 + m) hj (by omega)), hbeh2, bst_snoc]
      have hx := lgV_len (a := a) (b := b) (cr := cr) (av a (i + 1 + m))
      rw [better_ifs (x := lgV a b cr (av a (i + 1 + m))) (by omega), hnx]
      split <;> (rw [ck_of (inI (by omega) (by omega))])
    · have hbeh2 : behind a b cr i (m + 1) = behind a b cr i m := by rw [hbeh, if_neg (by simpa using c), List.append_nil]
      rw [if_pos (by simpa using c), hbeh2, ck_of (inI (by omega) (by omega)), hnx]
  · simp only [F_spec_l15Long_l1]
    rw [if_neg (by omega)]
theorem l15Longest_eq (ha : a.length ≤ 1048576) (hb : b.length ≤ 1048576) (hab : Lines a b) : F_spec_l15Longest a b cr = some (bst ((List.range a.length).map (lgV a b cr))) := by
  have hl := hab.1
  have h16 := hl.1.2
  unfold F_spec_l15Longest
  rw [cal_of (l15Lines_eq a b ha hb), if_neg (by simp [hab])]
  have hset : bst ((List.range a.length).map fun i => lgV a b cr (av a i)) = bst ((List.range a.length).map (lgV a b cr)) := by
    refine bst_set fun x => ?_
    rw [List.mem_map, List.mem_map]
    constructor
    · rintro ⟨i, hi, rfl⟩
      rw [List.mem_range] at hi
      exact ⟨av a i, List.mem_range.2 (av_spec hl hi).2.1, rfl⟩
    · rintro ⟨u, hu, rfl⟩
      rw [List.mem_range] at hu
      exact ⟨a.idxOf (u : Int), List.mem_range.2 (pa_lt hl hu), by rw [av_pa hl hu]⟩
  have key := lp_upto (step := fun s => F_spec_l15Longest_l1 a b cr s.1 s.2) (fun k => (bst ((List.range k).map fun i => lgV a b cr (av a i)), (k : Int))) a.length (s := (([] : List Int), (0 : Int))) rfl (fun k hk => ?_) (o := .inl (bst ((List.range a.length).map fun i => lgV a b cr (av a i)))) ?_
  · rw [bnd_l key, ← hset]; rfl
  · simp only [F_spec_l15Longest_l1]
    rw [if_pos (by omega), cal_of (l15Long_eq hab hk), List.range_succ, List.map_append]
    rw [show [k].map (fun i => lgV a b cr (av a i)) = [lgV a b cr (av a k)] from rfl, bst_snoc]
    have hx := lgV_len (a := a) (b := b) (cr := cr) (av a k)
    rw [better_ifs (x := lgV a b cr (av a k)) (by omega)]
    split <;> (rw [ck_of (inI (by omega) (by omega))]; rfl)
  · simp only [F_spec_l15Longest_l1]
    rw [if_neg (by omega)]
end
open Classical in
noncomputable def resLongest (cr : Bool) (a b : List Int) : List Int := if Lines a b then bst ((List.range a.length).map (lgV a b cr)) else []
theorem resLongest_le (cr : Bool) (a b : List Int) (ha : a.length ≤ 1048576) : (resLongest cr a b).length ≤ 1048576 := by
  unfold resLongest
  split
  · rcases bst_mem ((List.range a.length).map (lgV a b cr)) with e | e
    · rw [e]; simp
    · obtain ⟨u, _, hu⟩ := List.mem_map.1 e
      rw [← hu]; have := lgV_len (a := a) (b := b) (cr := cr) u; omega
  · simp
theorem specLongest (cr : Bool) (a b : List Int) (ha : a.length ≤ 1048576) (hb : b.length ≤ 1048576) : F_spec_l15Longest a b cr = some (resLongest cr a b) := by
  unfold resLongest
  by_cases h : Lines a b
  · rw [if_pos h]; exact l15Longest_eq ha hb h
  · unfold F_spec_l15Longest
    rw [cal_of (l15Lines_eq a b ha hb), if_pos (by simp [h]), if_neg h]
theorem implLongest (cr : Bool) (a b : List Int) (ha : a.length ≤ 1048576) (hb : b.length ≤ 1048576) : F_impl_longestLine a b cr = some (resLongest cr a b) := by
  unfold resLongest
  by_cases h : Lines a b
  · rw [if_pos h]; exact longestLine_eq ha hb h
  · obtain ⟨r, h1, h2⟩ := crossings_ok a b ha hb
    unfold F_impl_longestLine
    rw [cal_of h1, h2, if_pos (by simp [h]), if_neg h]
end Go.Proofs.YtbcjeljppgojgaaDoor

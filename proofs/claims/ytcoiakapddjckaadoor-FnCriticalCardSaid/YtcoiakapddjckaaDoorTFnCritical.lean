/- FnCritical: the plain law. -/
import Derived.Test.YtcoiakapddjckaaDoorTFnExactCriticalIn
import Derived.Test.YtcoiakapddjckaaDoorDiceF
import Derived.Test.YtcoiakapddjckaaDoorCritMath
namespace Go.Proofs.YtcoiakapddjckaaDoor
/-- the graph of the edges E, row by row -/
def canon (n : Nat) (E : Nat → Nat → Bool) : List (List Int) := (List.range n).map fun v => ints ((List.range n).filter fun u => E v u)
theorem canon_has {n : Nat} {E : Nat → Nat → Bool} (h : ∀ u v, E u v = true → u < n ∧ v < n ∧ u ≠ v ∧ E v u = true) : Has (canon n E) n (fun a b => E a b = true) := by
  refine ⟨by simp [canon], fun v hv => ?_, fun v hv y => ?_, h⟩
  · simp only [canon, List.getElem_map, ints]
    refine List.Pairwise.map _ (fun a b h => by omega) ((List.pairwise_lt_range).filter _)
  · simp only [canon, List.getElem_map, List.getElem_range, ints, List.mem_map, List.mem_filter, List.mem_range]
    constructor
    · rintro ⟨u, ⟨_, hu⟩, rfl⟩; exact ⟨u, rfl, hu⟩
    · rintro ⟨u, rfl, hu⟩; exact ⟨u, ⟨(h _ _ hu).2.1, hu⟩, rfl⟩
/-- the edges of a loop of k -/
def around (k : Nat) : List (List Int) := [0, (k : Int) - 1] :: (List.range (k - 1)).map fun (j : Nat) => [(j : Int), (j : Int) + 1]
theorem around_crit {g : List (List Int)} {k : Nat} (hk : k = 3 ∨ k = 5 ∨ k = 7) (h : Has g k (fun a b => [(a : Int), (b : Int)] ∈ around k ∨ [(b : Int), (a : Int)] ∈ around k)) : IsCritical g := by
  have hg := h.gok (by omega) (by omega)
  have h2 : Has (canon k fun a b => decide ([(a : Int), (b : Int)] ∈ around k ∨ [(b : Int), (a : Int)] ∈ around k)) k (fun a b => [(a : Int), (b : Int)] ∈ around k ∨ [(b : Int), (a : Int)] ∈ around k) :=
    (canon_has (fun u v huv => by have := h.rng u v (of_decide_eq_true huv); exact ⟨this.1, this.2.1, this.2.2.1, decide_eq_true this.2.2.2⟩)).congr fun a b => by simp
  have e := h.eq h2
  refine ⟨hg, ?_⟩
  rw [e]
  rcases hk with rfl | rfl | rfl
  · rw [show (canon 3 fun a b => decide ([(a : Int), (b : Int)] ∈ around 3 ∨ [(b : Int), (a : Int)] ∈ around 3)) = loop3 by decide +kernel]; exact crit3
  · rw [show (canon 5 fun a b => decide ([(a : Int), (b : Int)] ∈ around 5 ∨ [(b : Int), (a : Int)] ∈ around 5)) = loop5 by decide +kernel]; exact crit5
  · rw [show (canon 7 fun a b => decide ([(a : Int), (b : Int)] ∈ around 7 ∨ [(b : Int), (a : Int)] ∈ around 7)) = loop7 by decide +kernel]; exact crit7
theorem gok_small {g : List (List Int)} (hg : GOk g) : g.length ≤ 1048576 ∧ ∀ x ∈ g, x.length ≤ 1048576 := by
  have h16 := hg.n16
  refine ⟨by omega, fun x hx => ?_⟩
  obtain ⟨v, hv, rfl⟩ := List.getElem_of_mem hx
  have := hg.row_len hv; omega
open Classical in
theorem T_FnCritical (code : List (BitVec 8)) (hs : Sz.ok code) : F_laws_FnCritical code = some true := by
  unfold F_laws_FnCritical
  rw [cal_of (show F_laws_big code = some (decide (4096 < (code.length : Int))) from rfl)]
  by_cases hb : 4096 < code.length
  · rw [if_pos (by simp; omega)]
  rw [if_neg (by simp; omega)]
  obtain ⟨d, e1, k1⟩ := roll_ex (code := code) (by omega) 807
  obtain ⟨g, d2, e2, hg, hgl, k2⟩ := w6Graph_ex k1 (most := 6) (by omega) (by omega)
  obtain ⟨s1, s2⟩ := gok_small hg
  have hnl := nb_len g
  have hch := chrom_le (nb g)
  rw [cal_of e1, cal_of e2]
  dsimp only
  rw [cal_of (implCriticalIn_eq g s1 s2), cal_of (specCriticalIn_eq g s1 s2), if_neg (by simp)]
  obtain ⟨o, e3, rfl⟩ : ∃ o, lp (fun s => F_laws_FnCritical_l1 (g, d2) (decide (IsCritical g)) s) 0 = some o ∧ o = .inl () := by
    refine lp_rule (step := fun s => F_laws_FnCritical_l1 (g, d2) (decide (IsCritical g)) s) (fun s => ∃ k : Nat, s = (k : Int) ∧ k ≤ g.length) (fun s => g.length - s.toNat) (fun o => o = .inl ()) ?_ 0 ⟨0, rfl, Nat.zero_le _⟩
    rintro s ⟨k, rfl, hk⟩
    simp only [F_laws_FnCritical_l1]
    by_cases hc : IsCritical g
    · by_cases hkl : k < g.length
      · have h16 := hg.n16
        have hd := crit_deg (nbs_sym hg) (v := k) (by omega) (by omega) (by rw [hnl]; exact hc.2 k hkl)
        have hcard : card ((nb g).getD k 0) = g[k].length := by
          rw [nb_getD hkl, card]
          have := congrArg List.length (row_els hg hkl)
          rw [ints_len] at this; exact this.symm
        rw [if_pos (by omega), if_pos (by simp [hc]), idx_nat hkl, cal_of (specChromaticOf_eq g s1 s2), if_pos hg, ck_of (inI (by omega) (by omega)), if_neg (by omega), ck_of (inI (by omega) (by omega))]
        exact .inl ⟨_, rfl, ⟨k + 1, by omega, by omega⟩, by omega⟩
      · rw [if_neg (by omega)]; exact .inr ⟨_, rfl, rfl⟩
    · by_cases hkl : k < g.length
      · rw [if_pos (by omega), if_neg (by simp [hc])]; exact .inr ⟨_, rfl, rfl⟩
      · rw [if_neg (by omega)]; exact .inr ⟨_, rfl, rfl⟩
  rw [bnd_l e3]
  unfold F_laws_FnCritical_k2
  obtain ⟨x, d3, e4, x0, x1, k3⟩ := below_ex k2 (n := 3) (by omega)
  dsimp only
  rw [cal_of e4]
  dsimp only
  obtain ⟨k, hk, hk3⟩ : ∃ k : Nat, 3 + 2 * x = (k : Int) ∧ (k = 3 ∨ k = 5 ∨ k = 7) := ⟨(3 + 2 * x).toNat, by omega, by omega⟩
  rw [ck_of (inI (by omega) (by omega)), ck_of (inI (by omega) (by omega)), ck_of (inI (by omega) (by omega)), hk]
  have e5 : lp (fun s => F_laws_FnCritical_l3 (x, d3) s.1 s.2) ([[0, (k : Int) - 1]], 1) = some (.inl (around k)) := by
    refine lp_upto (fun j => ([0, (k : Int) - 1] :: (List.range j).map fun (j : Nat) => [(j : Int), (j : Int) + 1], (1 : Int) + (j : Int))) (k - 1) rfl (fun j hj => ?_) ?_
    · simp only [F_laws_FnCritical_l3]
      rw [if_pos (by omega), ck_of (inI (by omega) (by omega)), app1_s (by simp; omega), ck_of (inI (by omega) (by omega))]
      refine inl_eq (pair_eq ?_ (by omega))
      rw [List.range_succ, List.map_append]
      simp
      omega
    · simp only [F_laws_FnCritical_l3]
      rw [if_neg (by omega)]
      rfl
  rw [bnd_l e5]
  unfold F_laws_FnCritical_k4
  dsimp only
  obtain ⟨g2, e6, hg2⟩ := graphOf_ex (n := k) (es := around k) (by omega) (by omega) (by simp [around]; omega) (fun e he => by
    rcases List.mem_cons.1 he with rfl | he
    · exact ⟨0, k - 1, by congr 1; congr 1; omega, by omega, by omega⟩
    · obtain ⟨j, hj, rfl⟩ := List.mem_map.1 he
      have := List.mem_range.1 hj
      exact ⟨j, j + 1, by simp, by omega, by omega⟩)
  have hcrit := around_crit hk3 hg2
  obtain ⟨s3, s4⟩ := gok_small hcrit.1
  rw [hk, cal_of e6]
  dsimp only
  rw [cal_of (implCriticalIn_eq g2 s3 s4)]
  simp [hcrit]
end Go.Proofs.YtcoiakapddjckaaDoor

/- FnExactRuleBy: the plain law. -/
import Derived.Test.YtnebbhginakaiaaP2
import Derived.Test.YtnebbhginakaiaaP1
namespace Go.Proofs.Ytnebbhginakaiaa
section
variable {g : List (List Int)} {K V : List Int} {B C : List (List Int)}
/-- no bag is too great -/
def SmallBags (B : List (List Int)) : Prop := ∀ b ∈ B, b.length ≤ 6
theorem ruleRun_ok (h : NiceIs g K V B C) (hl : ∀ x ∈ g, x.length ≤ 1048576) (hs : SmallBags B) : ∃ x, bnd (lp (fun s => F_spec_RuleBy_l1 g K V B C s.1 s.2) (([] : List (List Int)), 0)) (fun j => F_spec_RuleBy_k4 j) = some x ∧ IsV x (Rl g K V B C (K.length - 1) fun _ => 0) := by
  have hm := h.2.1
  have hB : B.length = K.length := h.2.2.2.1
  have h6 : ∀ i, i < K.length → (B.getD i []).length ≤ 6 := fun i hi => hs _ (by rw [List.getD_eq_getElem?_getD, List.getElem?_eq_getElem (by omega)]; exact List.getElem_mem _)
  obtain ⟨o, ho, out, rfl, hlen, hAll⟩ := lp_ex (step := fun s => F_spec_RuleBy_l1 g K V B C s.1 s.2) (fun i (rs : List (List Int)) => (rs, (i : Int))) K.length
    (fun i rs => rs.length = i ∧ ∀ j, j < i → RowR g K V B C j (rs.getD j [])) (fun o => ∃ rs, o = .inl rs ∧ rs.length = K.length ∧ ∀ j, j < K.length → RowR g K V B C j (rs.getD j [])) (fun i rs hi hI => by
      obtain ⟨hlen, hAll⟩ := hI
      obtain ⟨row, e1, e2⟩ := rule_step h hl hi (h6 i hi) hlen hAll
      refine ⟨rs ++ [row], e1, by rw [List.length_append, hlen]; rfl, fun j hj => ?_⟩
      by_cases e : j < i
      · rw [List.getD_eq_getElem?_getD, List.getElem?_append_left (by omega), ← List.getD_eq_getElem?_getD]; exact hAll j e
      · have e3 : j = i := by omega
        subst e3
        rw [List.getD_eq_getElem?_getD, List.getElem?_append_right (by omega), hlen, Nat.sub_self]; exact e2)
    (fun rs hI => ⟨.inl rs, by simp only [F_spec_RuleBy_l1]; rw [if_neg (by omega)], rs, rfl, hI⟩) K.length 0 [] (by omega) ⟨rfl, fun j hj => by omega⟩
  rw [show ((0 : Nat) : Int) = 0 from rfl] at ho
  have hr := hAll (K.length - 1) (by omega)
  have hv := hr.val (fun _ => 0) (by rw [h.last]; exact fun v hv => nomatch hv)
  have hrl := hr.len
  rw [h.last] at hv hrl
  refine ⟨(out.getD (K.length - 1) []).getD 0 0, ?_, hv⟩
  rw [ho, bnd_inl_eq]
  unfold F_spec_RuleBy_k4
  rw [hlen, ck_of (inI (by omega) (by omega)), show (K.length : Int) - 1 = ((K.length - 1 : Nat) : Int) by omega, getL_idx (by omega)]
  show idx _ ((0 : Nat) : Int) _ = _
  rw [getD_idx (by rw [hrl]; decide)]
theorem ruleRun_big (h : NiceIs g K V B C) (hl : ∀ x ∈ g, x.length ≤ 1048576) (hs : ¬ SmallBags B) : bnd (lp (fun s => F_spec_RuleBy_l1 g K V B C s.1 s.2) (([] : List (List Int)), 0)) (fun j => F_spec_RuleBy_k4 j) = some (-1) := by
  have hB : B.length = K.length := h.2.2.2.1
  have hs2 : ¬ ∀ i, i < K.length → (B.getD i []).length ≤ 6 := fun hh => hs fun b hb => by
    obtain ⟨i, hi, rfl⟩ := List.getElem_of_mem hb
    have := hh i (by omega)
    rwa [List.getD_eq_getElem?_getD, List.getElem?_eq_getElem hi] at this
  obtain ⟨m, hm, hmb, hlt⟩ := first_bad hs2
  obtain ⟨o, ho, rfl⟩ := lp_ex (step := fun s => F_spec_RuleBy_l1 g K V B C s.1 s.2) (fun i (rs : List (List Int)) => (rs, (i : Int))) m
    (fun i rs => rs.length = i ∧ ∀ j, j < i → RowR g K V B C j (rs.getD j [])) (fun o => o = .inr (-1)) (fun i rs hi hI => by
      obtain ⟨hlen, hAll⟩ := hI
      obtain ⟨row, e1, e2⟩ := rule_step h hl (by omega) (hlt i hi) hlen hAll
      refine ⟨rs ++ [row], e1, by rw [List.length_append, hlen]; rfl, fun j hj => ?_⟩
      by_cases e : j < i
      · rw [List.getD_eq_getElem?_getD, List.getElem?_append_left (by omega), ← List.getD_eq_getElem?_getD]; exact hAll j e
      · have e3 : j = i := by omega
        subst e3
        rw [List.getD_eq_getElem?_getD, List.getElem?_append_right (by omega), hlen, Nat.sub_self]; exact e2)
    (fun rs hI => ⟨.inr (-1), by simp only [F_spec_RuleBy_l1]; rw [if_pos (by omega), getL_idx (by omega), if_pos (by omega)], rfl⟩) m 0 [] (by omega) ⟨rfl, fun j hj => by omega⟩
  rw [show ((0 : Nat) : Int) = 0 from rfl] at ho
  rw [ho]; rfl
end
open Classical in
noncomputable def resRuleBy (g : List (List Int)) (K V : List Int) (B C : List (List Int)) : Int := if h : NiceIs g K V B C ∧ SmallBags B then (runR_eq h.1).choose_spec.2.choose else -1
open Classical in
theorem resRule_is {g : List (List Int)} {K V : List Int} {B C : List (List Int)} (h : NiceIs g K V B C ∧ SmallBags B) : Rl g K V B C (K.length - 1) (fun _ => 0) (resRuleBy g K V B C) ∧ ∀ m, Rl g K V B C (K.length - 1) (fun _ => 0) m → resRuleBy g K V B C ≤ m := by
  unfold resRuleBy
  rw [dif_pos h]
  exact (runR_eq h.1).choose_spec.2.choose_spec.2
open Classical in
theorem specRuleBy_eq (g : List (List Int)) (K V : List Int) (B C : List (List Int)) (hgl : g.length ≤ 1048576) (hl : ∀ x ∈ g, x.length ≤ 1048576) (hn : NiceLen (K, V, B, C)) : F_spec_RuleBy g K V B C = some (resRuleBy g K V B C) := by
  unfold F_spec_RuleBy
  rw [cal_of (specNiceOk_eq g K V B C hgl hl hn.r2 hn.r3)]
  by_cases h : NiceIs g K V B C
  · rw [if_neg (by rw [decide_eq_true h]; simp)]
    by_cases hs : SmallBags B
    · obtain ⟨x, e1, e2⟩ := ruleRun_ok h hl hs
      obtain ⟨r1, r2⟩ := resRule_is ⟨h, hs⟩
      have hb := Rl_in h (i := K.length - 1) (by have := h.2.1; omega) r1
      rw [e1]
      congr 1
      have h1 := e2.le _ r1
      rcases e2.or with k | k
      · omega
      · have := r2 _ k; omega
    · rw [ruleRun_big h hl hs]
      unfold resRuleBy
      rw [dif_neg (fun k => hs k.2)]
  · rw [if_pos (by rw [decide_eq_false h]; simp)]
    unfold resRuleBy
    rw [dif_neg (fun k => h k.1)]
open Classical in
theorem implRuleBy_eq (g : List (List Int)) (K V : List Int) (B C : List (List Int)) (hgl : g.length ≤ 1048576) (hl : ∀ x ∈ g, x.length ≤ 1048576) (hn : NiceLen (K, V, B, C)) : F_impl_RuleBy g K V B C = some (resRuleBy g K V B C) := by
  unfold F_impl_RuleBy
  rw [cal_of (implNiceOk_eq g K V B C hgl hl hn.r2 hn.r3)]
  by_cases h : NiceIs g K V B C
  · have hBl := h.2.2.2.1
    have hKl := h.2.1
    rw [if_neg (by rw [decide_eq_true h]; simp), cal_of (hasF_Sint64 B F_impl_RuleBy_1 (fun b => decide (6 < (b.length : Int))) (by omega) (fun b _ => rfl))]
    by_cases hs : SmallBags B
    · have e : B.any (fun b => decide (6 < (b.length : Int))) = false := by
        rw [List.any_eq_false]
        intro b hb
        have := hs b hb
        simp; omega
      obtain ⟨r1, r2⟩ := resRule_is ⟨h, hs⟩
      obtain ⟨T, hT, n, hn0, hR, hmin⟩ := runR_eq h
      have hT : runF F_impl_maskOf (rlRu (bvs (nb g))) (putT noT (0#32, 0#32) 0) K V B C = some T := hT
      rw [e, if_neg (by simp), cal_of (netsOf_eq h.1), cal_of hT, hn0]
      congr 1
      have h1 := hmin _ r1
      have h2 := r2 _ hR
      show n = _
      omega
    · have e : B.any (fun b => decide (6 < (b.length : Int))) = true := by
        refine Classical.byContradiction fun hno => hs fun b hb => ?_
        rw [Bool.not_eq_true, List.any_eq_false] at hno
        have := hno b hb
        simp at this; omega
      rw [e, if_pos rfl]
      unfold resRuleBy
      rw [dif_neg (fun k => hs k.2)]
  · rw [if_pos (by rw [decide_eq_false h]; simp)]
    unfold resRuleBy
    rw [dif_neg (fun k => h k.1)]
theorem T_FnExactRuleBy (x0 : List (List Int)) (hx0 : Sz.ok x0) (x1 : NiceD) (hx1 : Sz.ok x1) : F_laws_FnExactRuleBy x0 x1.1 x1.2.1 x1.2.2.1 x1.2.2.2 = some true := by
  unfold F_laws_FnExactRuleBy
  obtain ⟨m0, hm0, h0⟩ := szGraph_eq x0 1048576 (by omega) (by omega) hx0
  rw [cal_of hm0]
  rcases h0 with h0 | ⟨b0, e0, l0, r0⟩
  · rw [if_pos h0]
  rw [if_neg (by omega)]
  obtain ⟨m1, hm1, h1⟩ := szNice_ex x1 m0 (by omega) (by omega) hx1
  rw [cal_of hm1]
  rcases h1 with h1 | ⟨b1, e1, l1, r1⟩
  · rw [if_pos h1]
  rw [if_neg (by omega)]
  rw [cal_of (toGraph_eq x0 l0 r0), cal_of (toNice_eq x1 l1), cal_of (specRuleBy_eq x0 x1.1 x1.2.1 x1.2.2.1 x1.2.2.2 l0 r0 l1), cal_of (toGraph_eq x0 l0 r0), cal_of (toNice_eq x1 l1), cal_of (implRuleBy_eq x0 x1.1 x1.2.1 x1.2.2.1 x1.2.2.2 l0 r0 l1), if_neg (by simp), cal_of (toGraph_eq x0 l0 r0), cal_of (eqGraph_eq x0 l0 r0), if_neg (by simp), cal_of (toNice_eq x1 l1)]
  try simp only
  rw [cal_of (eqNice_self x1 l1), if_neg (by simp)]
end Go.Proofs.Ytnebbhginakaiaa

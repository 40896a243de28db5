/- FnExactHeaviestBy: the plain law. -/
import Derived.Test.YtnebbhginakaiaaP2
namespace Go.Proofs.Ytnebbhginakaiaa
open Classical in
noncomputable def resHeaviest (g : List (List Int)) (K V : List Int) (B C : List (List Int)) (ws : List Int) : Int := if NiceIs g K V B C ∧ WOk g.length ws then wval g K V B C ws (K.length - 1) (fun _ => 0) else -1
theorem upd_zero (v : Nat) : upd1 (fun _ => 0) v 0 = fun _ => 0 := by funext x; unfold upd1; split <;> rfl
/-- nothing chosen always weighs something -/
theorem wval_zero {g : List (List Int)} {K V : List Int} {B C : List (List Int)} {ws : List Int} (h : NiceIs g K V B C) : ∀ (i : Nat), i < K.length → 0 ≤ wval g K V B C ws i (fun _ => 0) := by
  intro i
  induction i using Nat.strongRecOn with
  | _ i ih =>
    intro hi
    cases h.node hi with
    | leaf hk hb hc => rw [wval_leaf hk]; omega
    | add hk j hj hc hv b1 b2 hb hbk =>
      rw [wval_add hk hj hc, if_neg (by rintro ⟨h1, _⟩; cases h1)]
      exact ih j hj (by omega)
    | drop hk j hj hc hv b1 b2 hbk hb =>
      have h0 := ih j hj (by omega)
      rw [wval_drop hk hj hc, upd_zero]
      split <;> omega
    | meet hk j l hj hl hc hbk hbl =>
      have h0 := ih j hj (by omega)
      have h1 := ih l hl (by omega)
      rw [wval_meet hk hj hl hc]
      split <;> omega
theorem inRange_w (x : Int) : F_impl_inRange x 0 1000 = some (decide (0 ≤ x ∧ x ≤ 1000)) := by
  unfold F_impl_inRange
  by_cases h : 0 ≤ x
  · rw [if_pos h]; congr 1; rw [decide_eq_decide]; omega
  · rw [if_neg h]; congr 1; symm; rw [decide_eq_false_iff_not]; omega
theorem l1In_w (x : Int) : F_spec_l1In x 0 1000 = some (decide (0 ≤ x ∧ x ≤ 1000)) := by
  unfold F_spec_l1In
  by_cases h : 0 ≤ x
  · rw [if_pos h]; congr 1; rw [decide_eq_decide]; omega
  · rw [if_neg h]; congr 1; symm; rw [decide_eq_false_iff_not]; omega
open Classical in
theorem goodWeights_eq (g : List (List Int)) (ws : List Int) (hl : ws.length ≤ 1048576) : F_impl_goodWeights g ws = some (decide (WOk g.length ws)) := by
  unfold F_impl_goodWeights
  by_cases e : ws.length = g.length
  · rw [if_pos (by omega), cal_of (hasF_int64 ws _ (fun x => !decide (0 ≤ x ∧ x ≤ 1000)) hl fun x _ => by unfold F_impl_goodWeights_1; rw [cal_of (inRange_w x)])]
    congr 1
    by_cases h : ∀ w ∈ ws, 0 ≤ w ∧ w ≤ 1000
    · rw [decide_eq_true (show WOk g.length ws from ⟨e, h⟩)]
      have : ws.any (fun x => !decide (0 ≤ x ∧ x ≤ 1000)) = false := by rw [List.any_eq_false]; intro x hx; simp [h x hx]
      rw [this]; rfl
    · rw [decide_eq_false (show ¬ WOk g.length ws from fun k => h k.2)]
      have : ws.any (fun x => !decide (0 ≤ x ∧ x ≤ 1000)) = true := by
        refine Classical.byContradiction fun hn => h fun w hw => ?_
        rw [Bool.not_eq_true, List.any_eq_false] at hn
        have := hn w hw
        simpa using this
      rw [this]; rfl
  · rw [if_neg (by omega)]
    congr 1; symm; rw [decide_eq_false_iff_not]; exact fun k => e k.1
open Classical in
theorem l25Weights_eq (g : List (List Int)) (ws : List Int) (hl : ws.length ≤ 1048576) : F_spec_l25Weights g ws = some (decide (WOk g.length ws)) := by
  unfold F_spec_l25Weights
  by_cases e : ws.length = g.length
  · rw [if_neg (by omega)]
    have key := lp_allC (step := fun s => F_spec_l25Weights_l1 ws s) (fun k => (k : Int)) ws.length (fun k => 0 ≤ ws.getD k 0 ∧ ws.getD k 0 ≤ 1000) (WOk g.length ws) (oT := .inl ()) (oF := .inr false)
      ⟨fun h k hk => h.2 _ (by rw [List.getD_eq_getElem?_getD, List.getElem?_eq_getElem hk]; exact List.getElem_mem _), fun h => ⟨e, fun w hw => by
        obtain ⟨k, hk, rfl⟩ := List.getElem_of_mem hw
        have := h k hk
        rwa [List.getD_eq_getElem?_getD, List.getElem?_eq_getElem hk] at this⟩⟩
      (fun k hk _ hp => by
        simp only [F_spec_l25Weights_l1]
        rw [if_pos (by omega), getD_idx hk, cal_of (l1In_w _), if_neg (by rw [decide_eq_true hp]; simp), ck_of (inI (by omega) (by omega))]; rfl)
      (fun k hk _ hp => by
        simp only [F_spec_l25Weights_l1]
        rw [if_pos (by omega), getD_idx hk, cal_of (l1In_w _), if_pos (by rw [decide_eq_false hp]; simp)])
      (fun _ => by simp only [F_spec_l25Weights_l1]; rw [if_neg (by omega)])
    rw [show ((0 : Nat) : Int) = 0 from rfl] at key
    rw [key]
    by_cases h : WOk g.length ws
    · rw [if_pos h, decide_eq_true h]; rfl
    · rw [if_neg h, decide_eq_false h]; rfl
  · rw [if_pos (by omega)]
    congr 1; symm; rw [decide_eq_false_iff_not]; exact fun k => e k.1
open Classical in
theorem specHeaviestBy_eq (g : List (List Int)) (K V : List Int) (B C : List (List Int)) (ws : List Int) (hgl : g.length ≤ 1048576) (hl : ∀ x ∈ g, x.length ≤ 1048576) (hn : NiceLen (K, V, B, C)) (hw : ws.length ≤ 1048576) : F_spec_HeaviestBy g K V B C ws = some (resHeaviest g K V B C ws) := by
  unfold F_spec_HeaviestBy resHeaviest
  rw [cal_of (specNiceOk_eq g K V B C hgl hl hn.r2 hn.r3)]
  by_cases h : NiceIs g K V B C
  · rw [if_neg (by rw [decide_eq_true h]; simp), cal_of (l25Weights_eq g ws hw)]
    by_cases hW : WOk g.length ws
    · rw [if_neg (by rw [decide_eq_true hW]; simp), if_pos ⟨h, hW⟩, cal_of (l29Weigh_eq h hW hl)]
    · rw [if_pos (by rw [decide_eq_false hW]; simp), if_neg (fun k => hW k.2)]
  · rw [if_pos (by rw [decide_eq_false h]; simp), if_neg (fun k => h k.1)]
open Classical in
theorem implHeaviestBy_eq (g : List (List Int)) (K V : List Int) (B C : List (List Int)) (ws : List Int) (hgl : g.length ≤ 1048576) (hl : ∀ x ∈ g, x.length ≤ 1048576) (hn : NiceLen (K, V, B, C)) (hw : ws.length ≤ 1048576) : F_impl_HeaviestBy g K V B C ws = some (resHeaviest g K V B C ws) := by
  unfold F_impl_HeaviestBy resHeaviest
  rw [cal_of (implNiceOk_eq g K V B C hgl hl hn.r2 hn.r3)]
  by_cases h : NiceIs g K V B C
  · rw [if_neg (by rw [decide_eq_true h]; simp), cal_of (goodWeights_eq g ws hw)]
    by_cases hW : WOk g.length ws
    · obtain ⟨T, hT, hv⟩ := runW_eq (ws := ws) h hW
      have e : runF F_impl_maskOf (stRu (bvs (nb g)) (fun v => F_impl_HeaviestBy_1 v ws) (fun x y => wr (x + y)) max) (putT noT 0#32 0) K V B C = some T := hT
      rw [if_neg (by rw [decide_eq_true hW]; simp), if_pos ⟨h, hW⟩, cal_of (netsOf_eq h.1), cal_of e, hv]
      have h0 := wval_zero (ws := ws) h (K.length - 1) (by have := h.2.1; omega)
      unfold ent
      rw [if_neg (by omega)]; rfl
    · rw [if_pos (by rw [decide_eq_false hW]; simp), if_neg (fun k => hW k.2)]
  · rw [if_pos (by rw [decide_eq_false h]; simp), if_neg (fun k => h k.1)]
theorem T_FnExactHeaviestBy (x0 : List (List Int)) (hx0 : Sz.ok x0) (x1 : NiceD) (hx1 : Sz.ok x1) (x2 : List Int) (hx2 : Sz.ok x2) : F_laws_FnExactHeaviestBy x0 x1.1 x1.2.1 x1.2.2.1 x1.2.2.2 x2 = some true := by
  unfold F_laws_FnExactHeaviestBy
  by_cases c2 : 1048576 < (x2.length : Int)
  · rw [if_pos c2]
  rw [if_neg c2]
  have l2 : x2.length ≤ 1048576 := by omega
  obtain ⟨m0, hm0, h0⟩ := szGraph_eq x0 1048576 (by omega) (by omega) hx0
  rw [cal_of hm0]
  rcases h0 with h0 | ⟨b0, e0, l0, r0⟩
  · rw [if_pos h0]
  rw [if_neg (by omega)]
  obtain ⟨m1, hm1, h1⟩ := szNice_ex x1 m0 (by omega) (by omega) hx1
  rw [cal_of hm1]
  rcases h1 with h1 | ⟨b1, e1, l1, r1⟩
  · rw [if_pos h1]
  rw [if_neg (by omega)]
  rw [cal_of (toGraph_eq x0 l0 r0), cal_of (toNice_eq x1 l1), cal_of (toInt64S_eq x2 (by omega)), cal_of (specHeaviestBy_eq x0 x1.1 x1.2.1 x1.2.2.1 x1.2.2.2 x2 l0 r0 l1 l2), cal_of (toGraph_eq x0 l0 r0), cal_of (toNice_eq x1 l1), cal_of (toInt64S_eq x2 (by omega)), cal_of (implHeaviestBy_eq x0 x1.1 x1.2.1 x1.2.2.1 x1.2.2.2 x2 l0 r0 l1 l2), if_neg (by simp), cal_of (toGraph_eq x0 l0 r0), cal_of (eqGraph_eq x0 l0 r0), if_neg (by simp), cal_of (toNice_eq x1 l1)]
  try simp only
  rw [cal_of (eqNice_self x1 l1), if_neg (by simp), cal_of (toInt64S_eq x2 (by omega)), cal_of (eqInt64S_eq x2 x2 (by omega)), if_neg (by simp)]
end Go.Proofs.Ytnebbhginakaiaa

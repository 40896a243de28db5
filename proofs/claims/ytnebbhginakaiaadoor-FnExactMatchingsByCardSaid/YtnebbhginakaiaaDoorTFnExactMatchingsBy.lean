/- FnExactMatchingsBy: the plain law. -/
import Derived.Test.YtnebbhginakaiaaDoorP3
namespace Go.Proofs.YtnebbhginakaiaaDoor
open Classical in
noncomputable def resMatchings (g : List (List Int)) (K V : List Int) (B C : List (List Int)) : Int := if NiceIs g K V B C then mval g K V B C (K.length - 1) (fun _ => 0) else -1
open Classical in
theorem specMatchingsBy_eq (g : List (List Int)) (K V : List Int) (B C : List (List Int)) (hgl : g.length ≤ 1048576) (hl : ∀ x ∈ g, x.length ≤ 1048576) (hn : NiceLen (K, V, B, C)) : F_spec_MatchingsBy g K V B C = some (resMatchings g K V B C) := by
  unfold F_spec_MatchingsBy resMatchings
  rw [cal_of (specNiceOk_eq g K V B C hgl hl hn.r2 hn.r3)]
  by_cases h : NiceIs g K V B C
  · rw [if_neg (by rw [decide_eq_true h]; simp), if_pos h, cal_of (l29Matchings_eq h hl)]
  · rw [if_pos (by rw [decide_eq_false h]; simp), if_neg h]
open Classical in
theorem implMatchingsBy_eq (g : List (List Int)) (K V : List Int) (B C : List (List Int)) (hgl : g.length ≤ 1048576) (hl : ∀ x ∈ g, x.length ≤ 1048576) (hn : NiceLen (K, V, B, C)) : F_impl_MatchingsBy g K V B C = some (resMatchings g K V B C) := by
  unfold F_impl_MatchingsBy resMatchings
  rw [cal_of (implNiceOk_eq g K V B C hgl hl hn.r2 hn.r3)]
  by_cases h : NiceIs g K V B C
  · obtain ⟨T, hT, hok, hv⟩ := runM_eq h
    have e : runF F_impl_maskOf (mtRu (bvs (nb g))) (putT noT 0#32 1) K V B C = some T := hT
    have hin := mval_in h (i := K.length - 1) (by have := h.2.1; omega) (f := fun _ => 0) (fun _ _ => by decide)
    rw [if_neg (by rw [decide_eq_true h]; simp), if_pos h, cal_of (netsOf_eq h.1), cal_of e]
    congr 1
    have hI : InI ((T 0#32).getD 0) := by
      cases hq : T 0#32 with
      | none => decide
      | some n => exact hok _ _ hq
    exact hv.eq hI (inI (by omega) (by omega))
  · rw [if_pos (by rw [decide_eq_false h]; simp), if_neg h]
theorem T_FnExactMatchingsBy (x0 : List (List Int)) (hx0 : Sz.ok x0) (x1 : NiceD) (hx1 : Sz.ok x1) : F_laws_FnExactMatchingsBy x0 x1.1 x1.2.1 x1.2.2.1 x1.2.2.2 = some true := by
  unfold F_laws_FnExactMatchingsBy
  obtain ⟨m0, hm0, h0⟩ := szGraph_eq x0 1048576 (by omega) (by omega) hx0
  rw [cal_of hm0]
  rcases h0 with h0 | ⟨b0, e0, l0, r0⟩
  · rw [if_pos h0]
  rw [if_neg (by omega)]
  obtain ⟨m1, hm1, h1⟩ := szNice_ex x1 m0 (by omega) (by omega) hx1
  rw [cal_of hm1]
  rcases h1 with h1 | ⟨b1, e1, l1, r1⟩
  · rw [if_pos h1]
  rw [if_neg (by omega)]
  rw [cal_of (toGraph_eq x0 l0 r0), cal_of (toNice_eq x1 l1), cal_of (specMatchingsBy_eq x0 x1.1 x1.2.1 x1.2.2.1 x1.2.2.2 l0 r0 l1), cal_of (toGraph_eq x0 l0 r0), cal_of (toNice_eq x1 l1), cal_of (implMatchingsBy_eq x0 x1.1 x1.2.1 x1.2.2.1 x1.2.2.2 l0 r0 l1), if_neg (by simp), cal_of (toGraph_eq x0 l0 r0), cal_of (eqGraph_eq x0 l0 r0), if_neg (by simp), cal_of (toNice_eq x1 l1)]
  try simp only
  rw [cal_of (eqNice_self x1 l1), if_neg (by simp)]
end Go.Proofs.YtnebbhginakaiaaDoor

/- FnExactColoursBy: the plain law. -/
import Derived.Test.YtnebbhginakaiaaDoorP2
namespace Go.Proofs.YtnebbhginakaiaaDoor
theorem inRange_4 (x : Int) : F_impl_inRange x 0 4 = some (decide (0 ≤ x ∧ x ≤ 4)) := by
  unfold F_impl_inRange
  by_cases h : 0 ≤ x
  · rw [if_pos h]; congr 1; rw [decide_eq_decide]; omega
  · rw [if_neg h]; congr 1; symm; rw [decide_eq_false_iff_not]; omega
theorem l1In_4 (x : Int) : F_spec_l1In x 0 4 = some (decide (0 ≤ x ∧ x ≤ 4)) := by
  unfold F_spec_l1In
  by_cases h : 0 ≤ x
  · rw [if_pos h]; congr 1; rw [decide_eq_decide]; omega
  · rw [if_neg h]; congr 1; symm; rw [decide_eq_false_iff_not]; omega
open Classical in
noncomputable def resColoursBy (g : List (List Int)) (K V : List Int) (B C : List (List Int)) (k : Int) : Int := if NiceIs g K V B C ∧ 0 ≤ k ∧ k ≤ 4 then cval g K V B C k.toNat false (K.length - 1) (fun _ => 0) else -1
open Classical in
theorem specColoursBy_eq (g : List (List Int)) (K V : List Int) (B C : List (List Int)) (k : Int) (hgl : g.length ≤ 1048576) (hl : ∀ x ∈ g, x.length ≤ 1048576) (hn : NiceLen (K, V, B, C)) : F_spec_ColoursBy g K V B C k = some (resColoursBy g K V B C k) := by
  unfold F_spec_ColoursBy resColoursBy
  rw [cal_of (specNiceOk_eq g K V B C hgl hl hn.r2 hn.r3)]
  by_cases h : NiceIs g K V B C
  · rw [if_neg (by rw [decide_eq_true h]; simp), cal_of (l1In_4 k)]
    by_cases hk : 0 ≤ k ∧ k ≤ 4
    · have e : ((k.toNat : Nat) : Int) = k := by omega
      have := l29Colours_eq (k := k.toNat) (st := false) h hl (by omega)
      rw [e] at this
      rw [if_neg (by rw [decide_eq_true hk]; simp), if_pos ⟨h, hk⟩, cal_of this]
    · rw [if_pos (by rw [decide_eq_false hk]; simp), if_neg (fun h => hk h.2)]
  · rw [if_pos (by rw [decide_eq_false h]; simp), if_neg (fun hh => h hh.1)]
theorem keyC_nil (f : Nat → Nat) : keyC [] f = zeroC := Subtype.ext (by
  show (List.range 16).map (keyN [] f) = List.replicate 16 0
  rw [List.eq_replicate_iff]
  refine ⟨by simp, fun x hx => ?_⟩
  obtain ⟨j, _, rfl⟩ := List.mem_map.1 hx
  unfold keyN
  rw [if_neg (by simp)])
open Classical in
theorem implColoursBy_eq (g : List (List Int)) (K V : List Int) (B C : List (List Int)) (k : Int) (hgl : g.length ≤ 1048576) (hl : ∀ x ∈ g, x.length ≤ 1048576) (hn : NiceLen (K, V, B, C)) : F_impl_ColoursBy g K V B C k = some (resColoursBy g K V B C k) := by
  unfold F_impl_ColoursBy resColoursBy
  rw [cal_of (implNiceOk_eq g K V B C hgl hl hn.r2 hn.r3)]
  by_cases h : NiceIs g K V B C
  · rw [if_neg (by rw [decide_eq_true h]; simp), cal_of (inRange_4 k)]
    by_cases hk : 0 ≤ k ∧ k ≤ 4
    · have e : ((k.toNat : Nat) : Int) = k := by omega
      obtain ⟨T, hT, hok, hv⟩ := runF_eq (col_lin (k := k.toNat) h.1 (by omega)) h
      rw [e, keyC_nil] at hT
      rw [keyC_nil] at hv
      have hin := cval_in (k := k.toNat) (st := false) h (by omega) (i := K.length - 1) (by have := h.2.1; omega) (fun _ => 0)
      rw [if_neg (by rw [decide_eq_true hk]; simp), if_pos ⟨h, hk⟩, cal_of (netsOf_eq h.1), cal_of hT]
      congr 1
      have hI : InI ((T zeroC).getD 0) := by
        cases hq : T zeroC with
        | none => decide
        | some n => exact hok _ _ hq
      exact hv.eq hI (inI (by omega) (by omega))
    · rw [if_pos (by rw [decide_eq_false hk]; simp), if_neg (fun h => hk h.2)]
  · rw [if_pos (by rw [decide_eq_false h]; simp), if_neg (fun hh => h hh.1)]
theorem T_FnExactColoursBy (x0 : List (List Int)) (hx0 : Sz.ok x0) (x1 : NiceD) (hx1 : Sz.ok x1) (x2 : Int) (hx2 : Sz.ok x2) : F_laws_FnExactColoursBy x0 x1.1 x1.2.1 x1.2.2.1 x1.2.2.2 x2 = some true := by
  unfold F_laws_FnExactColoursBy
  obtain ⟨m0, hm0, h0⟩ := szGraph_eq x0 1048576 (by omega) (by omega) hx0
  rw [cal_of hm0]
  rcases h0 with h0 | ⟨b0, e0, l0, r0⟩
  · rw [if_pos h0]
  rw [if_neg (by omega)]
  obtain ⟨m1, hm1, h1⟩ := szNice_ex x1 m0 (by omega) (by omega) hx1
  rw [cal_of hm1]
  rcases h1 with h1 | ⟨b1, e1, l1, r1⟩
  · rw [if_pos h1]
  rw [if_neg (by omega)]
  rw [cal_of (toGraph_eq x0 l0 r0), cal_of (toNice_eq x1 l1), cal_of (specColoursBy_eq x0 x1.1 x1.2.1 x1.2.2.1 x1.2.2.2 x2 l0 r0 l1), cal_of (toGraph_eq x0 l0 r0), cal_of (toNice_eq x1 l1), cal_of (implColoursBy_eq x0 x1.1 x1.2.1 x1.2.2.1 x1.2.2.2 x2 l0 r0 l1), if_neg (by simp), cal_of (toGraph_eq x0 l0 r0), cal_of (eqGraph_eq x0 l0 r0), if_neg (by simp), cal_of (toNice_eq x1 l1)]
  try simp only
  rw [cal_of (eqNice_self x1 l1), if_neg (by simp)]
end Go.Proofs.YtnebbhginakaiaaDoor

/- FnExactCoverBy: the plain law. -/
import Derived.Test.YtnebbhginakaiaaP2
namespace Go.Proofs.Ytnebbhginakaiaa
theorem ones_ok (n : Nat) : WOk n (List.replicate n (1 : Int)) := ⟨List.length_replicate, fun w hw => by rw [List.eq_of_mem_replicate hw]; decide⟩
open Classical in
noncomputable def resCover (g : List (List Int)) (K V : List Int) (B C : List (List Int)) : Int := if NiceIs g K V B C then (g.length : Int) - wval g K V B C (List.replicate g.length 1) (K.length - 1) (fun _ => 0) else -1
theorem coverOnes_eq (g : List (List Int)) (h : g.length ≤ 1048576) : lp (fun s => F_spec_CoverBy_l1 g s.1 s.2) (([] : List Int), 0) = some (.inl (List.replicate g.length 1)) := by
  have key := lp_upto (step := fun s => F_spec_CoverBy_l1 g s.1 s.2) (fun i => (List.replicate i (1 : Int), (i : Int))) g.length (o := Sum.inl (List.replicate g.length 1)) (s := (([] : List Int), (0 : Int))) rfl (fun i hi => by
    simp only [F_spec_CoverBy_l1]
    rw [if_pos (by omega), app1_s (by rw [List.length_replicate]; omega), ck_of (inI (by omega) (by omega)), List.replicate_succ']; rfl) (by
    simp only [F_spec_CoverBy_l1]
    rw [if_neg (by omega)])
  exact key
open Classical in
theorem specCoverBy_eq (g : List (List Int)) (K V : List Int) (B C : List (List Int)) (hgl : g.length ≤ 1048576) (hl : ∀ x ∈ g, x.length ≤ 1048576) (hn : NiceLen (K, V, B, C)) : F_spec_CoverBy g K V B C = some (resCover g K V B C) := by
  unfold F_spec_CoverBy resCover
  rw [cal_of (specNiceOk_eq g K V B C hgl hl hn.r2 hn.r3)]
  by_cases h : NiceIs g K V B C
  · have hin := wval_in (ws := List.replicate g.length 1) h (ones_ok _) (i := K.length - 1) (by have := h.2.1; omega) (fun _ => 0)
    rw [if_neg (by rw [decide_eq_true h]; simp), if_pos h, coverOnes_eq g hgl, bnd_inl_eq]
    unfold F_spec_CoverBy_k2 F_spec_l1Size
    rw [cal_of rfl, cal_of (l29Weigh_eq h (ones_ok _) hl), ck_of (inI (by omega) (by omega))]
  · rw [if_pos (by rw [decide_eq_false h]; simp), if_neg h]
open Classical in
theorem implCoverBy_eq (g : List (List Int)) (K V : List Int) (B C : List (List Int)) (hgl : g.length ≤ 1048576) (hl : ∀ x ∈ g, x.length ≤ 1048576) (hn : NiceLen (K, V, B, C)) : F_impl_CoverBy g K V B C = some (resCover g K V B C) := by
  unfold F_impl_CoverBy resCover
  rw [cal_of (implNiceOk_eq g K V B C hgl hl hn.r2 hn.r3)]
  by_cases h : NiceIs g K V B C
  · have hin := wval_in (ws := List.replicate g.length 1) h (ones_ok _) (i := K.length - 1) (by have := h.2.1; omega) (fun _ => 0)
    have e : F_slices_Repeat_int64 [1] (g.length : Int) = some (List.replicate g.length 1) := by
      unfold F_slices_Repeat_int64
      rw [if_pos ⟨rfl, by omega, by omega⟩]; rfl
    have e2 := implHeaviestBy_eq g K V B C (List.replicate g.length 1) hgl hl hn (by rw [List.length_replicate]; omega)
    unfold resHeaviest at e2
    rw [if_pos ⟨h, ones_ok _⟩] at e2
    rw [if_neg (by rw [decide_eq_true h]; simp), if_pos h, cal_of e, cal_of e2, ck_of (inI (by omega) (by omega))]
  · rw [if_pos (by rw [decide_eq_false h]; simp), if_neg h]
theorem T_FnExactCoverBy (x0 : List (List Int)) (hx0 : Sz.ok x0) (x1 : NiceD) (hx1 : Sz.ok x1) : F_laws_FnExactCoverBy x0 x1.1 x1.2.1 x1.2.2.1 x1.2.2.2 = some true := by
  unfold F_laws_FnExactCoverBy
  obtain ⟨m0, hm0, h0⟩ := szGraph_eq x0 1048576 (by omega) (by omega) hx0
  rw [cal_of hm0]
  rcases h0 with h0 | ⟨b0, e0, l0, r0⟩
  · rw [if_pos h0]
  rw [if_neg (by omega)]
  obtain ⟨m1, hm1, h1⟩ := szNice_ex x1 m0 (by omega) (by omega) hx1
  rw [cal_of hm1]
  rcases h1 with h1 | ⟨b1, e1, l1, r1⟩
  · rw [if_pos h1]
  rw [if_neg (by omega)]
  rw [cal_of (toGraph_eq x0 l0 r0), cal_of (toNice_eq x1 l1), cal_of (specCoverBy_eq x0 x1.1 x1.2.1 x1.2.2.1 x1.2.2.2 l0 r0 l1), cal_of (toGraph_eq x0 l0 r0), cal_of (toNice_eq x1 l1), cal_of (implCoverBy_eq x0 x1.1 x1.2.1 x1.2.2.1 x1.2.2.2 l0 r0 l1), if_neg (by simp), cal_of (toGraph_eq x0 l0 r0), cal_of (eqGraph_eq x0 l0 r0), if_neg (by simp), cal_of (toNice_eq x1 l1)]
  try simp only
  rw [cal_of (eqNice_self x1 l1), if_neg (by simp)]
end Go.Proofs.Ytnebbhginakaiaa

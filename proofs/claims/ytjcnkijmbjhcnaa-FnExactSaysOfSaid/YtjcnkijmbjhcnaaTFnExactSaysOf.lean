/- FnExactSaysOf: the plain law. -/
import Derived.Test.YtjcnkijmbjhcnaaJudgeT
namespace Go.Proofs.Ytjcnkijmbjhcnaa
open Classical in
noncomputable def resSays (g : List (List Int)) (f : List (Int × Int × Int)) : Bool := if (GOk g ∧ g.length ≤ 8) ∧ formulaOk f = true then sat (nb g) f (f.length - 1) (fun _ => 0) (fun _ => 0) else false
theorem zero_in {n : Nat} (h : 1 ≤ n) : InR n (fun _ => 0) (fun _ => 0) := ⟨fun _ => h, fun _ => Nat.two_pow_pos _⟩
open Classical in
theorem specSaysOf_eq (g : List (List Int)) (f : List (Int × Int × Int)) (hgl : g.length ≤ 1048576) (hl : ∀ x ∈ g, x.length ≤ 1048576) (hfl : f.length ≤ 1048576) (ht : True) : F_spec_SaysOf g f = some (resSays g f) := by
  unfold F_spec_SaysOf resSays
  rw [cal_of (right_eq g f hl hfl)]
  by_cases h : (GOk g ∧ g.length ≤ 8) ∧ formulaOk f = true
  · rw [if_pos (by simp only [h]; rfl), mkS_of (by decide) (by decide), mkS_of (by decide) (by decide), if_pos h]
    have := rootS_eq h.1 h.2 (fun _ => 0) (fun _ => 0) (zero_in h.1.1.n1)
    rw [show List.replicate (3 : Int).toNat (0 : Int) = v3 (fun _ => 0) from rfl, show List.replicate (2 : Int).toNat (0 : Int) = v2 (fun _ => 0) from rfl, cal_of this]
  · rw [if_neg (by rw [decide_eq_false h]; simp), if_neg h]
open Classical in
theorem implSaysOf_eq (g : List (List Int)) (f : List (Int × Int × Int)) (hgl : g.length ≤ 1048576) (hl : ∀ x ∈ g, x.length ≤ 1048576) (hfl : f.length ≤ 1048576) (ht : True) : F_impl_SaysOf g f = some (resSays g f) := by
  unfold F_impl_SaysOf resSays
  by_cases h : (GOk g ∧ g.length ≤ 8) ∧ formulaOk f = true
  · obtain ⟨d, e, hd⟩ := newJudge_y g f hgl hl hfl h.1 h.2
    have := rootI_eq h.1 h.2 hd (fun _ => 0) (fun _ => 0) (zero_in h.1.1.n1)
    rw [cal_of e, if_neg (by simp), if_pos h]
    rw [show F_impl_judge_root (false, d).2 0 0 0 (0#32) (0#32) = _ from this]; rfl
  · rw [cal_of (newJudge_n g f hgl hl hfl h), if_pos rfl, if_neg h]
theorem T_FnExactSaysOf (x0 : List (List Int)) (hx0 : Sz.ok x0) (x1 : List (Int × Int × Int)) (hx1 : Sz.ok x1) : F_laws_FnExactSaysOf x0 x1 = some true := by
  unfold F_laws_FnExactSaysOf
  obtain ⟨m0, hm0, h0⟩ := szGraph_eq x0 1048576 (by omega) (by omega) hx0
  rw [cal_of hm0]
  rcases h0 with h0 | ⟨b0, e0, l0, r0⟩
  · rw [if_pos h0]
  rw [if_neg (by omega)]
  obtain ⟨m1, hm1, h1⟩ := szFormula_ex x1 m0 (by omega) (by omega) hx1
  rw [cal_of hm1]
  rcases h1 with h1 | ⟨b1, e1, l1, r1⟩
  · rw [if_pos h1]
  rw [if_neg (by omega)]
  rw [cal_of (toGraph_eq x0 l0 r0), cal_of (toFormula_eq x1 l1), cal_of (specSaysOf_eq x0 x1 l0 r0 l1 r1), cal_of (toGraph_eq x0 l0 r0), cal_of (toFormula_eq x1 l1), cal_of (implSaysOf_eq x0 x1 l0 r0 l1 r1), if_neg (by simp), cal_of (toGraph_eq x0 l0 r0), cal_of (eqGraph_eq x0 l0 r0), if_neg (by simp), cal_of (toFormula_eq x1 l1), cal_of (eqFormula_self x1 l1), if_neg (by simp)]
end Go.Proofs.Ytjcnkijmbjhcnaa

/- FnExactCliqueIn: the plain law. -/
import Derived.Test.YtgikmgceiiahpaaDoorSetF
import Derived.Test.YtgikmgceiiahpaaDoorLawGraph
namespace Go.Proofs.YtgikmgceiiahpaaDoor
open Classical in
theorem specCliqueIn_eq (g : List (List Int)) (s : List Int) (hgl : g.length ≤ 1048576) (hl : ∀ x ∈ g, x.length ≤ 1048576) (hs : s.length ≤ 1048576) : F_spec_CliqueIn g s = some (decide (GOk g ∧ Rises s g.length) && clq (nb g) (mk s)) := by
  unfold F_spec_CliqueIn
  rw [cal_of (specGraphOk_eq g hl)]
  by_cases hg : GOk g
  case neg => rw [if_neg (by simp [hg])]; simp [hg]
  rw [if_pos (by simp [hg]), cal_of (specSetOk_eq g s hl hs)]
  by_cases hr : Rises s g.length
  case neg => rw [if_neg (by simp [hr])]; simp [hr]
  have h16 := hg.n16
  have hlt := hr.lt
  have h1 := nb_len g
  have hp : 2 ^ g.length ≤ 2 ^ 16 := pow16 h16
  have hp0 : 0 < 2 ^ g.length := Nat.two_pow_pos _
  have hb : ∀ v (h : v < (nb g).length), (nb g)[v] < 2 ^ 16 := fun v h => nb_lt16 hg h
  rw [if_pos (by simp [hg, hr]), cal_of (l25Bits_eq hg), cal_of (l25Mask_eq (fun v hv => by have := hr.mem hv; omega) hs), cal_of (l25Clique_eq (by omega) (by omega) hb)]
  simp [hg, hr]
open Classical in
theorem implCliqueIn_eq (g : List (List Int)) (s : List Int) (hgl : g.length ≤ 1048576) (hl : ∀ x ∈ g, x.length ≤ 1048576) (hs : s.length ≤ 1048576) : F_impl_CliqueIn g s = some (decide (GOk g ∧ Rises s g.length) && clq (nb g) (mk s)) := by
  unfold F_impl_CliqueIn F_impl_CliqueOk
  rw [cal_of (implSetOk_eq g s hgl hl hs)]
  by_cases hr : GOk g ∧ Rises s g.length
  case neg => rw [if_neg (by simp [hr])]; simp [hr]
  obtain ⟨hg, hr⟩ := hr
  have h16 := hg.n16
  have hlt := hr.lt
  have h1 := nb_len g
  have hp : 2 ^ g.length ≤ 2 ^ 16 := pow16 h16
  have hp0 : 0 < 2 ^ g.length := Nat.two_pow_pos _
  have hb : ∀ v (h : v < (nb g).length), (nb g)[v] < 2 ^ 16 := fun v h => nb_lt16 hg h
  rw [if_pos (by simp [hg, hr]), cal_of (netsOf_eq hg), cal_of (maskOf_eq (fun v hv => by have := hr.mem hv; omega) hs), cal_of (missing_eq (by omega) (by rw [h1]; exact hlt) hb)]
  have hq := miss_clq (a := nb g) (s := mk s) (by omega) (by rw [h1]; exact hlt) (nbs_sym hg)
  simp only [cal_some_eq, hg, hr, and_self, decide_true, Bool.true_and]
  congr 1
  rw [Bool.eq_iff_iff, ← hq, decide_eq_true_iff]
  omega
theorem T_FnExactCliqueIn (x0 : List (List Int)) (hx0 : Sz.ok x0) (x1 : List Int) (hx1 : Sz.ok x1) : F_laws_FnExactCliqueIn x0 x1 = some true := by
  unfold F_laws_FnExactCliqueIn
  by_cases c1 : 1048576 < (x1.length : Int)
  · rw [if_pos c1]
  rw [if_neg c1]
  have l1 : x1.length ≤ 1048576 := by omega
  obtain ⟨m0, hm0, h0⟩ := szGraph_eq x0 1048576 (by omega) (by omega) hx0
  rw [cal_of hm0]
  rcases h0 with h0 | ⟨b0, e0, l0, r0⟩
  · rw [if_pos h0]
  rw [if_neg (by omega)]
  rw [cal_of (toGraph_eq x0 l0 r0), cal_of (toInt64S_eq x1 (by omega)), cal_of (specCliqueIn_eq x0 x1 l0 r0 l1), cal_of (toGraph_eq x0 l0 r0), cal_of (toInt64S_eq x1 (by omega)), cal_of (implCliqueIn_eq x0 x1 l0 r0 l1), if_neg (by simp), cal_of (toGraph_eq x0 l0 r0), cal_of (eqGraph_eq x0 l0 r0), if_neg (by simp), cal_of (toInt64S_eq x1 (by omega)), cal_of (eqInt64S_eq x1 x1 (by omega)), if_neg (by simp)]
end Go.Proofs.YtgikmgceiiahpaaDoor

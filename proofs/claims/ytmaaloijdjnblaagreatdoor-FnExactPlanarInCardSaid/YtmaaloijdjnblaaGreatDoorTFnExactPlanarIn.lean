/- PlanarIn: the program's and the reference's: both find a rotation system of genus 0 just where there is one. -/
import Derived.Test.YtmaaloijdjnblaaGreatDoorP2
import Derived.Test.YtmaaloijdjnblaaGreatDoorP3
import Derived.Test.YtmaaloijdjnblaaGreatDoorP1
namespace Go.Proofs.YtmaaloijdjnblaaGreatDoor
open Classical in
theorem isSmall_eqR (g : List (List Int)) (hgl : g.length ≤ 1048576) (hl : ∀ x ∈ g, x.length ≤ 1048576) : F_impl_isSmall g = some (decide (GOk g ∧ g.length ≤ 8)) := by
  unfold F_impl_isSmall
  rw [cal_of (implGraphOk_eq g hgl hl)]
  by_cases hg : GOk g
  · rw [if_pos (by simp [hg])]; congr 1; rw [Bool.eq_iff_iff]; simp [hg]; omega
  · rw [if_neg (by simp [hg])]; simp [hg]
theorem embeddings_ex {g : List (List Int)} (hg : GOk g) (h8 : g.length ≤ 8) : ∃ s, F_impl_embeddings (bvs (nb g)) (false, []) = some s ∧ (s.1 = true ↔ Pln g) := by
  obtain ⟨es, h1, hU, hgr, hel, hlen⟩ := growth_ex hg h8
  have hr : Rdy (List.replicate g.length []) es := ⟨tok_empty h8, ⟨[], fun a b => by rw [rho_empty]; simp [El], hU⟩, fun e he => by
    obtain ⟨v, w, e1, e2, hv, hw⟩ := el_rng hg ((hel e.1 e.2).1 (.inl he))
    rw [List.length_replicate, e1, e2]; exact ⟨⟨by omega, by omega⟩, by omega, by omega⟩⟩
  have hgw := grow_eq (E := es) (by omega) (es := es) (done := []) rfl hr (false, [])
  have hf := G22_found es _ (false, []) hr
  rw [rho_empty, fndP_iff hU hgr] at hf
  refine ⟨_, ?_, hf.trans ⟨fun h => ?_, fun h => .inr ?_⟩⟩
  · unfold F_impl_embeddings
    rw [cal_of h1, bvs_len, nb_len, mkS_of (by omega) (by show _ ≤ 1099511627776; omega), Int.toNat_natCast]
    exact hgw
  · rcases h with h | ⟨R, hR, hT⟩
    · cases h
    · exact ⟨R, hR.of hel, hT⟩
  · obtain ⟨R, hR, hT⟩ := h
    exact ⟨R, hR.of fun a b => (hel a b).symm, hT⟩
open Classical in
theorem implPlanarIn_eq (g : List (List Int)) (hgl : g.length ≤ 1048576) (hl : ∀ x ∈ g, x.length ≤ 1048576) : F_impl_PlanarIn g = some (decide ((GOk g ∧ g.length ≤ 8) ∧ Pln g)) := by
  unfold F_impl_PlanarIn F_impl_EmbeddingOf
  rw [cal_of (isSmall_eqR g hgl hl)]
  by_cases hg : GOk g ∧ g.length ≤ 8
  · obtain ⟨s, h1, h2⟩ := embeddings_ex hg.1 hg.2
    rw [if_neg (by simp [hg]), cal_of (netsOf_eq hg.1), cal_of h1]
    refine congrArg some ?_
    cases hs : s.1 with
    | true => exact (decide_eq_true (show (GOk g ∧ g.length ≤ 8) ∧ Pln g from ⟨hg, h2.1 hs⟩)).symm
    | false => exact (decide_eq_false (show ¬ ((GOk g ∧ g.length ≤ 8) ∧ Pln g) from fun h => by have := h2.2 h.2; rw [hs] at this; cases this)).symm
  · rw [if_pos (by simp [hg])]
    refine congrArg some ?_
    exact (decide_eq_false (show ¬ ((GOk g ∧ g.length ≤ 8) ∧ Pln g) from fun h => hg h.1)).symm
theorem T_FnExactPlanarIn (x0 : List (List Int)) (hx0 : Sz.ok x0) : F_laws_FnExactPlanarIn x0 = some true := by
  unfold F_laws_FnExactPlanarIn
  obtain ⟨m0, hm0, h0⟩ := szGraph_eq x0 1048576 (by omega) (by omega) hx0
  rw [cal_of hm0]
  rcases h0 with h0 | ⟨b0, e0, l0, r0⟩
  · rw [if_pos h0]
  rw [if_neg (by omega)]
  rw [cal_of (toGraph_eq x0 l0 r0), cal_of (specPlanarIn_eq x0 l0 r0), cal_of (toGraph_eq x0 l0 r0), cal_of (implPlanarIn_eq x0 l0 r0), if_neg (by simp), cal_of (toGraph_eq x0 l0 r0), cal_of (eqGraph_eq x0 l0 r0), if_neg (by simp)]
end Go.Proofs.YtmaaloijdjnblaaGreatDoor

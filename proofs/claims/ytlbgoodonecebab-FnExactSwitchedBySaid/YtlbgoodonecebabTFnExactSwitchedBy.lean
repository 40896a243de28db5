/- FnExactSwitchedBy: the plain law. -/
import Derived.Test.YtlbgoodonecebabSwitch
import Derived.Test.YtlbgoodonecebabLawMarks
import Derived.Test.YtlbgoodonecebabLawGraph
namespace Go.Proofs.Ytlbgoodonecebab
/-- along a path: those matched in twos anew -/
def swTo (M p : List Int) : Nat → List Int
  | 0 => M
  | j + 1 => ((swTo M p j).set (p.getD (2 * j) 0).toNat (p.getD (2 * j + 1) 0)).set (p.getD (2 * j + 1) 0).toNat (p.getD (2 * j) 0)
theorem swTo_len (M p : List Int) : ∀ j, (swTo M p j).length = M.length
  | 0 => rfl
  | j + 1 => by rw [swTo, List.length_set, List.length_set, swTo_len M p j]
/-- the edges that mates tell -/
def edTo (M : List Int) (k : Nat) : List (List Int) := ((List.range k).filter fun v : Nat => decide ((v : Int) < M.getD v 0)).map fun v : Nat => [(v : Int), M.getD v 0]
theorem edTo_succ (M : List Int) (k : Nat) : edTo M (k + 1) = if (k : Int) < M.getD k 0 then edTo M k ++ [[(k : Int), M.getD k 0]] else edTo M k := by
  unfold edTo
  rw [List.range_succ, List.filter_append, List.map_append]
  split
  · rename_i h; rw [show List.filter (fun v : Nat => decide ((v : Int) < M.getD v 0)) [k] = [k] by rw [List.filter_cons, if_pos (by simpa using h)]; rfl]; rfl
  · rename_i h; rw [show List.filter (fun v : Nat => decide ((v : Int) < M.getD v 0)) [k] = [] by rw [List.filter_cons, if_neg (by simpa using h)]; rfl, List.map_nil, List.append_nil]
theorem edTo_len (M : List Int) (k : Nat) : (edTo M k).length ≤ k := by unfold edTo; rw [List.length_map]; exact Nat.le_trans (List.length_filter_le ..) (by simp)
open Classical in
noncomputable def resSwitchedBy (g : List (List Int)) (es : List (List Int)) (p : List Int) : List (List Int) × Bool :=
  if (GOk g ∧ IsMatch g es) ∧ Aug g (matesOf g.length es) p then (edTo (swTo (matesOf g.length es) p (p.length / 2)) g.length, true) else ([], false)
theorem resSwitchedBy_small (g : List (List Int)) (es : List (List Int)) (p : List Int) (hgl : g.length ≤ 1048576) (hl : ∀ x ∈ g, x.length ≤ 1048576) (he : es.length ≤ 1048576) (hr : ∀ x ∈ es, x.length ≤ 1048576) (hp : p.length ≤ 1048576) :
    (resSwitchedBy g es p).1.length ≤ 1048576 ∧ ∀ x ∈ (resSwitchedBy g es p).1, x.length ≤ 1048576 := by
  unfold resSwitchedBy
  split
  · refine ⟨Nat.le_trans (edTo_len _ _) hgl, fun x hx => ?_⟩
    unfold edTo at hx
    obtain ⟨v, _, rfl⟩ := List.mem_map.1 hx
    simp
  · exact ⟨by simp, fun x hx => by cases hx⟩
theorem specSwitchedBy_eq (g : List (List Int)) (es : List (List Int)) (p : List Int) (hgl : g.length ≤ 1048576) (hl : ∀ x ∈ g, x.length ≤ 1048576) (he : es.length ≤ 1048576) (hr : ∀ x ∈ es, x.length ≤ 1048576) (hpl : p.length ≤ 1048576) :
    F_spec_SwitchedBy g es p = some (resSwitchedBy g es p) := by
  unfold F_spec_SwitchedBy
  rw [cal_of (specMatchOk_eq g es hgl hl he hr)]
  by_cases hm : GOk g ∧ IsMatch g es
  case neg => rw [if_pos (by simpa using hm)]; unfold resSwitchedBy; rw [if_neg (fun h => hm h.1)]
  obtain ⟨hg, hM⟩ := hm
  have h16 := hg.n16
  rw [if_neg (by simp [hg, hM])]
  by_cases hpl16 : p.length ≤ 16
  case neg =>
    rw [if_pos (by omega)]; unfold resSwitchedBy; rw [if_neg (fun h => ?_)]
    have := h.2.2.2.1.len; omega
  rw [if_neg (by omega), cal_of (l27Mates_eq hg hM)]
  have hMt := mates_inv hg hM es.length (Nat.le_refl _)
  rw [matesOf_eq] at hMt
  rw [cal_of (l27Longer_eq hg hMt p hpl16)]
  by_cases ha : Aug g (matesOf g.length es) p
  case neg => rw [if_pos (by simpa using ha)]; unfold resSwitchedBy; rw [if_neg (fun h => ha h.2)]
  have hres : resSwitchedBy g es p = (edTo (swTo (matesOf g.length es) p (p.length / 2)) g.length, true) := by unfold resSwitchedBy; rw [if_pos ⟨⟨hg, hM⟩, ha⟩]
  rw [if_neg (by simpa using ha), hres]
  obtain ⟨h2, hev, hp, _⟩ := ha
  generalize matesOf g.length es = M at *
  have key : lp (fun s => F_spec_SwitchedBy_l1 p s.1 s.2.1 s.2.2) (([] : List (List Int)), M, 0) = some (.inl (([] : List (List Int)), swTo M p (p.length / 2))) := by
    refine lp_upto (fun j => (([] : List (List Int)), swTo M p j, ((2 * j : Nat) : Int))) (p.length / 2) rfl (fun j hj => ?_) ?_
    · simp only [F_spec_SwitchedBy_l1]
      have hl := swTo_len M p j
      have hML := hMt.len
      have b0 := hp.mem (show 2 * j < p.length by omega)
      have b1 := hp.mem (show 2 * j + 1 < p.length by omega)
      rw [if_pos (by omega), idx_nat (show 2 * j < p.length by omega), ck_of (inI (by omega) (by omega)), show ((2 * j : Nat) : Int) + 1 = ((2 * j + 1 : Nat) : Int) by omega, idx_nat (show 2 * j + 1 < p.length by omega), getD_ix (hl.trans hML) b0, ck_of (inI (by omega) (by omega)), idx_nat (show 2 * j + 1 < p.length by omega), idx_nat (show 2 * j < p.length by omega),
        getD_ix (by rw [List.length_set, hl, hML]) b1, ck_of (inI (by omega) (by omega)), swTo, getD_at (show 2 * j < p.length by omega), getD_at (show 2 * j + 1 < p.length by omega)]
      refine inl_eq (pair_eq rfl (pair_eq rfl (by omega)))
    · simp only [F_spec_SwitchedBy_l1]
      rw [if_neg (by omega)]
  rw [bnd_l key]
  unfold F_spec_SwitchedBy_k2
  have hlen : (swTo M p (p.length / 2)).length = g.length := (swTo_len M p _).trans hMt.len
  generalize swTo M p (p.length / 2) = S at *
  have key2 : lp (fun s => F_spec_SwitchedBy_l3 g S s.1 s.2) (([] : List (List Int)), 0) = some (.inl (edTo S g.length)) := by
    refine lp_nums g.length (fun k => edTo S k) (fun k hk => ?_) ?_
    · simp only [F_spec_SwitchedBy_l3, F_spec_l1Size, cal_some_eq]
      have hel := edTo_len S k
      have e : S.getD k 0 = S[k] := getD_at (by omega)
      rw [if_pos (by omega), idx_nat (show k < S.length by omega), edTo_succ, e]
      by_cases h : (k : Int) < S[k]
      · rw [if_pos h, if_pos h, idx_nat (show k < S.length by omega), app1_s (by omega), ck_of (inI (by omega) (by omega))]; rfl
      · rw [if_neg h, if_neg h, ck_of (inI (by omega) (by omega))]; rfl
    · simp only [F_spec_SwitchedBy_l3, F_spec_l1Size, cal_some_eq]
      rw [if_neg (by omega)]
  rw [bnd_l key2]; rfl
theorem implSwitchedBy_eq (g : List (List Int)) (es : List (List Int)) (p : List Int) (hgl : g.length ≤ 1048576) (hl : ∀ x ∈ g, x.length ≤ 1048576) (he : es.length ≤ 1048576) (hr : ∀ x ∈ es, x.length ≤ 1048576) (hpl : p.length ≤ 1048576) :
    F_impl_SwitchedBy g es p = some (resSwitchedBy g es p) := by
  unfold F_impl_SwitchedBy
  rw [cal_of (implMatchOk_eq g es hgl hl he hr)]
  by_cases hm : GOk g ∧ IsMatch g es
  case neg => rw [if_pos (by simpa using hm)]; unfold resSwitchedBy; rw [if_neg (fun h => hm h.1)]
  obtain ⟨hg, hM⟩ := hm
  have h16 := hg.n16
  rw [if_neg (by simp [hg, hM]), cal_of (implMates_eq hg hM)]
  have hMt := mates_inv hg hM es.length (Nat.le_refl _)
  rw [matesOf_eq] at hMt
  rw [cal_of (augments_eq hg hMt p hpl)]
  by_cases ha : Aug g (matesOf g.length es) p
  case neg => rw [if_pos (by simpa using ha)]; unfold resSwitchedBy; rw [if_neg (fun h => ha h.2)]
  have hres : resSwitchedBy g es p = (edTo (swTo (matesOf g.length es) p (p.length / 2)) g.length, true) := by unfold resSwitchedBy; rw [if_pos ⟨⟨hg, hM⟩, ha⟩]
  rw [if_neg (by simpa using ha), cal_of (implMates_eq hg hM), hres]
  obtain ⟨h2, hev, hp, _⟩ := ha
  generalize matesOf g.length es = M at *
  have hpn := hp.len
  have key : lp (fun s => F_impl_SwitchedBy_l1 p s.1 s.2) (M, 0) = some (.inl (swTo M p (p.length / 2))) := by
    refine lp_upto (fun j => (swTo M p j, ((2 * j : Nat) : Int))) (p.length / 2) rfl (fun j hj => ?_) ?_
    · simp only [F_impl_SwitchedBy_l1]
      have hl := swTo_len M p j
      have hML := hMt.len
      have b0 := hp.mem (show 2 * j < p.length by omega)
      have b1 := hp.mem (show 2 * j + 1 < p.length by omega)
      rw [if_pos (by omega), idx_nat (show 2 * j < p.length by omega), ck_of (inI (by omega) (by omega)), show ((2 * j : Nat) : Int) + 1 = ((2 * j + 1 : Nat) : Int) by omega, idx_nat (show 2 * j + 1 < p.length by omega), ck_of (inI (by omega) (by omega)), idx_nat (show 2 * j + 1 < p.length by omega), idx_nat (show 2 * j < p.length by omega), getD_ix (hl.trans hML) b0,
        getD_ix (by rw [List.length_set, hl, hML]) b1, ck_of (inI (by omega) (by omega)), swTo, getD_at (show 2 * j < p.length by omega), getD_at (show 2 * j + 1 < p.length by omega)]
      refine inl_eq (pair_eq rfl (by omega))
    · simp only [F_impl_SwitchedBy_l1]
      rw [if_neg (by omega)]
  rw [bnd_l key]
  unfold F_impl_SwitchedBy_k2
  have hlen : (swTo M p (p.length / 2)).length = g.length := (swTo_len M p _).trans hMt.len
  generalize swTo M p (p.length / 2) = S at *
  have key2 : lp (fun s => F_impl_SwitchedBy_l3 S s.1 s.2) (([] : List (List Int)), 0) = some (.inl (edTo S g.length)) := by
    refine lp_nums g.length (fun k => edTo S k) (fun k hk => ?_) ?_
    · simp only [F_impl_SwitchedBy_l3]
      have hel := edTo_len S k
      have e : S.getD k 0 = S[k] := getD_at (by omega)
      rw [if_pos (by omega), idx_nat (show k < S.length by omega), edTo_succ, e]
      by_cases h : (k : Int) < S[k]
      · rw [if_pos h, if_pos h, app1_s (by omega), ck_of (inI (by omega) (by omega))]; rfl
      · rw [if_neg h, if_neg h, ck_of (inI (by omega) (by omega))]; rfl
    · simp only [F_impl_SwitchedBy_l3]
      rw [if_neg (by omega)]
  rw [bnd_l key2]; rfl
theorem T_FnExactSwitchedBy (x0 : List (List Int)) (hx0 : Sz.ok x0) (x1 : List (List Int)) (hx1 : Sz.ok x1) (x2 : List Int) (hx2 : Sz.ok x2) : F_laws_FnExactSwitchedBy x0 x1 x2 = some true := by
  unfold F_laws_FnExactSwitchedBy
  by_cases c2 : 1048576 < (x2.length : Int)
  · rw [if_pos c2]
  rw [if_neg c2]
  have l2 : x2.length ≤ 1048576 := by omega
  obtain ⟨m0, hm0, h0⟩ := szGraph_eq x0 1048576 (by omega) (by omega) hx0
  rw [cal_of hm0]
  rcases h0 with h0 | ⟨b0, e0, l0, r0⟩
  · rw [if_pos h0]
  rw [if_neg (by omega)]
  obtain ⟨m1, hm1, h1⟩ := szInt64SS_eq x1 m0 (by omega) (by omega) hx1
  rw [cal_of hm1]
  rcases h1 with h1 | ⟨b1, e1, l1, r1⟩
  · rw [if_pos h1]
  rw [if_neg (by omega)]
  have hS := specSwitchedBy_eq x0 x1 x2 l0 r0 l1 r1 l2
  have hI := implSwitchedBy_eq x0 x1 x2 l0 r0 l1 r1 l2
  have hB := resSwitchedBy_small x0 x1 x2 l0 r0 l1 r1 l2
  generalize resSwitchedBy x0 x1 x2 = R at hS hI hB
  have he0 : F_laws_eqInt64SS R.1 R.1 = some true := by rw [eqInt64SS_eq R.1 R.1 (by have := hB.1; omega) (fun x hx => by have := hB.2 x hx; omega)]; simp
  obtain ⟨k0, q0, hk0⟩ : ∃ k : Int, ∃ q, F_laws_markGraph x0 1 = some (k, q) ∧ 0 ≤ k ∧ k ≤ 1 + 1099511627776 := by
    have hsum := sumLen_le (n := 1048576) r0
    have : sumLen x0 ≤ 1048576 * 1048576 := Nat.le_trans hsum (Nat.mul_le_mul_right _ l0)
    exact ⟨_, _, markGraph_eq x0 1 l0 r0 (by omega) (by omega), by omega, by omega⟩
  obtain ⟨k1, q1, hk1⟩ : ∃ k : Int, ∃ q, F_laws_markInt64SS x1 k0 = some (k, q) ∧ 0 ≤ k ∧ k ≤ k0 + 1099511627776 := by
    have hsum := sumLen_le (n := 1048576) r1
    have : sumLen x1 ≤ 1048576 * 1048576 := Nat.le_trans hsum (Nat.mul_le_mul_right _ l1)
    exact ⟨_, _, markInt64SS_eq x1 k0 l1 r1 (by omega) (by omega), by omega, by omega⟩
  obtain ⟨k2, q2, hk2⟩ : ∃ k : Int, ∃ q, F_laws_markInt64S x2 k1 = some (k, q) ∧ 0 ≤ k ∧ k ≤ k1 + 1099511627776 := by
    exact ⟨_, _, markInt64S_eq x2 k1 (by omega) (by omega) (by omega), by omega, by omega⟩
  obtain ⟨m_r0, z_r0, hz_r0, hh_r0, hn_r0⟩ : ∃ k : Int, ∃ q, F_laws_markInt64SS R.1 1 = some (k, q) ∧ F_laws_heldInt64SS q 1 = some k ∧ 0 ≤ k ∧ k ≤ 1 + 4398046511104 := by
    have hsum := sumLen_le (n := 1048576) hB.2
    have : sumLen R.1 ≤ 1048576 * 1048576 := Nat.le_trans hsum (Nat.mul_le_mul_right _ hB.1)
    exact ⟨_, _, markInt64SS_eq R.1 1 hB.1 hB.2 (by omega) (by omega), heldInt64SS_marks R.1 1 hB.1 hB.2 (by omega) (by omega), by omega, by omega⟩
  rw [cal_of (toGraph_eq x0 l0 r0), cal_of (toInt64SS_eq x1 (by omega) (fun x hx => by have := r1 x hx; omega)), cal_of (toInt64S_eq x2 (by omega)), cal_of hS, cal_of (toGraph_eq x0 l0 r0), cal_of (toInt64SS_eq x1 (by omega) (fun x hx => by have := r1 x hx; omega)), cal_of (toInt64S_eq x2 (by omega)), cal_of hI, cal_of he0, if_neg (by simp), if_neg (by simp), cal_of (toGraph_eq x0 l0 r0), cal_of (eqGraph_eq x0 l0 r0), if_neg (by simp), cal_of (toInt64SS_eq x1 (by omega) (fun x hx => by have := r1 x hx; omega)), cal_of (eqInt64SS_eq x1 x1 (by omega) (fun x hx => by have := r1 x hx; omega)), if_neg (by simp), cal_of (toInt64S_eq x2 (by omega)), cal_of (eqInt64S_eq x2 x2 (by omega)), if_neg (by simp), cal_of hk0.1, cal_of hk1.1, cal_of hk2.1, if_neg (by simp only; omega), cal_of he0, if_neg (by simp), if_neg (by simp), cal_of hz_r0]
  simp only
  rw [cal_of hh_r0, if_neg (by omega), if_neg (by simp), cal_of (toGraph_eq x0 l0 r0), cal_of (toInt64SS_eq x1 (by omega) (fun x hx => by have := r1 x hx; omega)), cal_of (toInt64S_eq x2 (by omega)), cal_of hI, cal_of he0, if_neg (by simp), if_neg (by simp), cal_of hh_r0, if_neg (by omega), if_neg (by simp)]
end Go.Proofs.Ytlbgoodonecebab

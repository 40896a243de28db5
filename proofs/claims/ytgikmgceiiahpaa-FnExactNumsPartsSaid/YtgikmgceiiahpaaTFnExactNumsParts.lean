/- FnExactNumsParts: the plain law. -/
import Derived.Test.YtgikmgceiiahpaaLawMarks
import Derived.Test.YtgikmgceiiahpaaLawIn
namespace Go.Proofs.Ytgikmgceiiahpaa
/-- numbers taken apart: three of a head, so many as the third says -/
def partsGo : Nat → List Int → List (Int × Int × List Int) → List (Int × Int × List Int) × Bool
  | 0, _, _ => ([], false)
  | n + 1, a, l =>
    if a.length = 0 then (l, true)
    else match a with
      | x :: y :: z :: r =>
        if 0 ≤ z ∧ z ≤ 16 then
          if (r.length : Int) < z then ([], false)
          else if l.length = 31 then ([], false)
          else partsGo n (r.drop z.toNat) (l ++ [(x, y, r.take z.toNat)])
        else ([], false)
      | _ => ([], false)
def resNumsParts (a : List Int) : List (Int × Int × List Int) × Bool := partsGo (a.length + 1) a []
theorem partsGo_small : ∀ (n : Nat) (a : List Int) (l : List (Int × Int × List Int)), l.length ≤ 31 → (∀ x ∈ l, x.2.2.length ≤ 16) → (partsGo n a l).1.length ≤ 31 ∧ ∀ x ∈ (partsGo n a l).1, x.2.2.length ≤ 16
  | 0, _, _, _, _ => ⟨by simp [partsGo], fun x h => by simp [partsGo] at h⟩
  | n + 1, a, l, h1, h2 => by
    unfold partsGo
    split
    · exact ⟨h1, h2⟩
    split
    · split
      · split
        · simp
        split
        · simp
        · refine partsGo_small n _ _ (by simp; omega) (fun x hx => ?_)
          rcases List.mem_append.1 hx with e | e
          · exact h2 x e
          · simp at e; subst e; simp; omega
      · simp
    · simp
theorem resNumsParts_small (a : List Int) (h : a.length ≤ 1048576) : (resNumsParts a).1.length ≤ 1048576 ∧ ∀ x ∈ (resNumsParts a).1, x.2.2.length ≤ 1048576 := by
  obtain ⟨h1, h2⟩ := partsGo_small (a.length + 1) a [] (by simp) (by simp)
  exact ⟨Nat.le_trans h1 (by decide), fun x hx => Nat.le_trans (h2 x hx) (by decide)⟩
theorem implNumsParts_eq (a : List Int) (h : a.length ≤ 1048576) : F_impl_NumsParts a = some (resNumsParts a) := by
  unfold F_impl_NumsParts resNumsParts
  have key : ∀ (n : Nat) (a : List Int) (l : List (Int × Int × List Int)), a.length < n → a.length ≤ 1048576 → l.length ≤ 31 →
      bnd (lp (fun s => F_impl_NumsParts_l1 s.1 s.2) (a, l)) (fun j => F_impl_NumsParts_k2 j) = some (partsGo n a l) := by
    intro n
    induction n with
    | zero => intro a l h; omega
    | succ n ih =>
      intro a l hn ha hl
      rw [lp_unfold]
      unfold partsGo
      by_cases h0 : a.length = 0
      · rw [if_pos h0]; simp only [F_impl_NumsParts_l1]; rw [if_neg (by omega)]; rfl
      rw [if_neg h0]
      match a, hn, ha, h0 with
      | [x], hn, ha, h0 => simp only [F_impl_NumsParts_l1]; rw [if_pos (by simp), if_pos (by simp)]; rfl
      | [x, y], hn, ha, h0 => simp only [F_impl_NumsParts_l1]; rw [if_pos (by simp), if_pos (by simp)]; rfl
      | x :: y :: z :: r, hn, ha, h0 =>
        simp only [List.length_cons] at hn ha
        have i0 : ∀ {β : Type} (k : Int → Option β), idx (x :: y :: z :: r) 0 k = k x := fun k => idx_of (by decide) rfl
        have i1 : ∀ {β : Type} (k : Int → Option β), idx (x :: y :: z :: r) 1 k = k y := fun k => idx_of (by decide) rfl
        have i2 : ∀ {β : Type} (k : Int → Option β), idx (x :: y :: z :: r) 2 k = k z := fun k => idx_of (by decide) rfl
        have hlen : (x :: y :: z :: r).length = r.length + 3 := by simp
        by_cases hz : 0 ≤ z ∧ z ≤ 16
        case neg =>
          have hs : F_impl_NumsParts_l1 (x :: y :: z :: r) l = some (.inr (.inr ([], false))) := by
            unfold F_impl_NumsParts_l1
            rw [if_pos (by rw [hlen]; omega), if_neg (by rw [hlen]; omega), i2, cal_of (inRange_eq _ _ _), if_pos (by simpa using hz)]
          simp only [hs]
          rw [if_neg hz]; rfl
        by_cases hr : (r.length : Int) < z
        · have hs : F_impl_NumsParts_l1 (x :: y :: z :: r) l = some (.inr (.inr ([], false))) := by
            unfold F_impl_NumsParts_l1
            rw [if_pos (by rw [hlen]; omega), if_neg (by rw [hlen]; omega), i2, cal_of (inRange_eq _ _ _), if_neg (by simpa using hz), i2, ck_of (inI (by omega) (by omega)), if_pos (by rw [hlen]; omega)]
          simp only [hs]
          rw [if_pos hz, if_pos hr]; rfl
        by_cases h31 : l.length = 31
        · have hs : F_impl_NumsParts_l1 (x :: y :: z :: r) l = some (.inr (.inr ([], false))) := by
            unfold F_impl_NumsParts_l1
            rw [if_pos (by rw [hlen]; omega), if_neg (by rw [hlen]; omega), i2, cal_of (inRange_eq _ _ _), if_neg (by simpa using hz), i2, ck_of (inI (by omega) (by omega)), if_neg (by rw [hlen]; omega), if_pos (by omega)]
          simp only [hs]
          rw [if_pos hz, if_neg hr, if_pos h31]; rfl
        have hs : F_impl_NumsParts_l1 (x :: y :: z :: r) l = some (.inl (r.drop z.toNat, l ++ [(x, y, r.take z.toNat)])) := by
          unfold F_impl_NumsParts_l1 F_slices_Clone_int64
          have e1 : ((x :: y :: z :: r).drop (3 : Int).toNat).take ((3 + z : Int).toNat - (3 : Int).toNat) = r.take z.toNat := by
            rw [show (3 : Int).toNat = 3 from rfl, show (3 + z : Int).toNat - 3 = z.toNat by omega]; rfl
          have e2 : ((x :: y :: z :: r).drop (3 + z : Int).toNat).take ((((x :: y :: z :: r).length : Int) : Int).toNat - (3 + z : Int).toNat) = r.drop z.toNat := by
            rw [show (3 + z : Int).toNat = z.toNat + 3 by omega, List.take_of_length_le (by simp; omega)]; rfl
          rw [if_pos (by rw [hlen]; omega), if_neg (by rw [hlen]; omega), i2, cal_of (inRange_eq _ _ _), if_neg (by simpa using hz), i2, ck_of (inI (by omega) (by omega)), if_neg (by rw [hlen]; omega), if_neg (by omega), i2, ck_of (inI (by omega) (by omega)), i0, i1,
            slc_of (by rw [hlen]; omega), e1, app_of (by simp [lim]; omega), cal_some_eq, app_of (by simp [lim]; omega), slc_of (by rw [hlen]; omega), e2]
          rfl
        simp only [hs]
        rw [if_pos hz, if_neg hr, if_neg h31]
        exact ih _ _ (by simp; omega) (by simp; omega) (by simp; omega)
  exact key _ a [] (by omega) h (by simp)
theorem specNumsParts_eq (a : List Int) (h : a.length ≤ 1048576) : F_spec_NumsParts a = some (resNumsParts a) := by
  unfold F_spec_NumsParts resNumsParts
  have key : ∀ (n : Nat) (i : Nat) (l : List (Int × Int × List Int)), a.length - i < n → i ≤ a.length → l.length ≤ 31 →
      bnd (lp (fun s => F_spec_NumsParts_l1 a s.1 s.2) (l, (i : Int))) (fun j => F_spec_NumsParts_k2 j) = some (partsGo n (a.drop i) l) := by
    intro n
    induction n with
    | zero => intro i l h; omega
    | succ n ih =>
      intro i l hn hi hl
      rw [lp_unfold]
      unfold partsGo
      have hdl : (a.drop i).length = a.length - i := by simp
      by_cases h0 : i = a.length
      · rw [if_pos (by omega)]; simp only [F_spec_NumsParts_l1]; rw [if_neg (by omega)]; rfl
      rw [if_neg (by omega)]
      by_cases h3 : a.length < i + 3
      · have hs : F_spec_NumsParts_l1 a l (i : Int) = some (.inr (.inr ([], false))) := by
          unfold F_spec_NumsParts_l1
          rw [if_pos (by omega), ck_of (inI (by omega) (by omega)), if_pos (by omega)]
        simp only [hs]
        match e : a.drop i, hdl with
        | [], hdl => rfl
        | [x], hdl => rfl
        | [x, y], hdl => rfl
        | x :: y :: z :: r, hdl => simp only [List.length_cons] at hdl; omega
      have e0 : a.drop i = a[i] :: a[i + 1] :: a[i + 2] :: a.drop (i + 3) := by
        rw [List.drop_eq_getElem_cons (by omega), List.drop_eq_getElem_cons (by omega), List.drop_eq_getElem_cons (by omega)]
      rw [e0]
      simp only
      have hrl : (a.drop (i + 3)).length = a.length - (i + 3) := by simp
      generalize hz : a[i + 2] = z
      have g2 : ∀ {β : Type} (k : Int → Option β), idx a ((i : Int) + 2) k = k z := fun k => by rw [← hz]; exact idx_nat (i := i + 2) (by omega)
      have g0 : ∀ {β : Type} (k : Int → Option β), idx a (i : Int) k = k a[i] := fun k => idx_nat (by omega)
      have g1 : ∀ {β : Type} (k : Int → Option β), idx a ((i : Int) + 1) k = k a[i + 1] := fun k => idx_nat (i := i + 1) (by omega)
      by_cases hzz : 0 ≤ z ∧ z ≤ 16
      case neg =>
        have hs : F_spec_NumsParts_l1 a l (i : Int) = some (.inr (.inr ([], false))) := by
          unfold F_spec_NumsParts_l1
          rw [if_pos (by omega), ck_of (inI (by omega) (by omega)), if_neg (by omega), ck_of (inI (by omega) (by omega)), g2, cal_of (l1In_eq _ _ _), if_pos (by simpa using hzz)]
        simp only [hs]
        rw [if_neg hzz]; rfl
      by_cases hr : ((a.drop (i + 3)).length : Int) < z
      · have hs : F_spec_NumsParts_l1 a l (i : Int) = some (.inr (.inr ([], false))) := by
          unfold F_spec_NumsParts_l1
          rw [if_pos (by omega), ck_of (inI (by omega) (by omega)), if_neg (by omega), ck_of (inI (by omega) (by omega)), g2, cal_of (l1In_eq _ _ _), if_neg (by simpa using hzz), ck_of (inI (by omega) (by omega)), ck_of (inI (by omega) (by omega)), g2, ck_of (inI (by omega) (by omega)), if_pos (by omega)]
        simp only [hs]
        rw [if_pos hzz, if_pos hr]; rfl
      by_cases h31 : l.length = 31
      · have hs : F_spec_NumsParts_l1 a l (i : Int) = some (.inr (.inr ([], false))) := by
          unfold F_spec_NumsParts_l1
          rw [if_pos (by omega), ck_of (inI (by omega) (by omega)), if_neg (by omega), ck_of (inI (by omega) (by omega)), g2, cal_of (l1In_eq _ _ _), if_neg (by simpa using hzz), ck_of (inI (by omega) (by omega)), ck_of (inI (by omega) (by omega)), g2, ck_of (inI (by omega) (by omega)), if_neg (by omega), if_pos (by omega)]
        simp only [hs]
        rw [if_pos hzz, if_neg hr, if_pos h31]; rfl
      have hs : F_spec_NumsParts_l1 a l (i : Int) = some (.inl (l ++ [(a[i], a[i + 1], (a.drop (i + 3)).take z.toNat)], ((i + 3 + z.toNat : Nat) : Int))) := by
        unfold F_spec_NumsParts_l1 F_spec_l1Copy
        have e1 : (a.drop ((i : Int) + 3 : Int).toNat).take (((i : Int) + 3 + z : Int).toNat - ((i : Int) + 3 : Int).toNat) = (a.drop (i + 3)).take z.toNat := by
          rw [show ((i : Int) + 3 : Int).toNat = i + 3 by omega, show ((i : Int) + 3 + z : Int).toNat - (i + 3) = z.toNat by omega]
        rw [if_pos (by omega), ck_of (inI (by omega) (by omega)), if_neg (by omega), ck_of (inI (by omega) (by omega)), g2, cal_of (l1In_eq _ _ _), if_neg (by simpa using hzz), ck_of (inI (by omega) (by omega)), ck_of (inI (by omega) (by omega)), g2, ck_of (inI (by omega) (by omega)), if_neg (by omega), if_neg (by omega),
          ck_of (inI (by omega) (by omega)), ck_of (inI (by omega) (by omega)), g2, ck_of (inI (by omega) (by omega)), g0, ck_of (inI (by omega) (by omega)), g1, ck_of (inI (by omega) (by omega)), slc_of (by omega), e1, app_of (by simp [lim]; omega), cal_some_eq, app_of (by simp [lim]; omega)]
        refine inl_eq (pair_eq (by simp) (by omega))
      simp only [hs]
      rw [if_pos hzz, if_neg hr, if_neg h31, List.drop_drop]
      exact ih _ _ (by omega) (by omega) (by simp; omega)
  have := key (a.length + 1) 0 [] (by omega) (by omega) (by simp)
  simpa using this
theorem T_FnExactNumsParts (x0 : List Int) (hx0 : Sz.ok x0) : F_laws_FnExactNumsParts x0 = some true := by
  unfold F_laws_FnExactNumsParts
  by_cases c0 : 1048576 < (x0.length : Int)
  · rw [if_pos c0]
  rw [if_neg c0]
  have l0 : x0.length ≤ 1048576 := by omega
  have hS := specNumsParts_eq x0 l0
  have hI := implNumsParts_eq x0 l0
  have hB := resNumsParts_small x0 l0
  generalize resNumsParts x0 = R at hS hI hB
  have he0 : F_laws_eqPartS R.1 R.1 = some true := by rw [eqPartS_eq R.1 R.1 (by have := hB.1; omega) (fun x hx => by have := hB.2 x hx; omega)]; simp
  obtain ⟨k0, q0, hk0⟩ : ∃ k : Int, ∃ q, F_laws_markInt64S x0 1 = some (k, q) ∧ 0 ≤ k ∧ k ≤ 1 + 1099511627776 := by
    exact ⟨_, _, markInt64S_eq x0 1 (by omega) (by omega) (by omega), by omega, by omega⟩
  obtain ⟨m_r0, z_r0, hz_r0, hh_r0, hn_r0⟩ : ∃ k : Int, ∃ q, F_laws_markPartS R.1 1 = some (k, q) ∧ F_laws_heldPartS q 1 = some k ∧ 0 ≤ k ∧ k ≤ 1 + 4398046511104 := by
    have hsum := lenPs_le (n := 1048576) hB.2
    have : lenPs R.1 ≤ 1048576 * 1048578 := Nat.le_trans hsum (Nat.mul_le_mul_right _ hB.1)
    exact ⟨_, _, markPartS_eq R.1 1 hB.1 hB.2 (by omega) (by omega), heldPartS_marks R.1 1 hB.1 hB.2 (by omega) (by omega), by omega, by omega⟩
  rw [cal_of (toInt64S_eq x0 (by omega)), cal_of hS, cal_of (toInt64S_eq x0 (by omega)), cal_of hI, cal_of he0, if_neg (by simp), if_neg (by simp), cal_of (toInt64S_eq x0 (by omega)), cal_of (eqInt64S_eq x0 x0 (by omega)), if_neg (by simp), cal_of hk0.1, if_neg (by simp only; omega), cal_of he0, if_neg (by simp), if_neg (by simp), cal_of hz_r0]
  simp only
  rw [cal_of hh_r0, if_neg (by omega), if_neg (by simp), cal_of (toInt64S_eq x0 (by omega)), cal_of hI, cal_of he0, if_neg (by simp), if_neg (by simp), cal_of hh_r0, if_neg (by omega), if_neg (by simp)]
end Go.Proofs.Ytgikmgceiiahpaa

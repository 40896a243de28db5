/- FnExactFullPath: the plain law. -/
import Derived.Test.YthbmcbflnibpbabDoorHamI
import Derived.Test.YthbmcbflnibpbabDoorLawGraph
import Derived.Test.YthbmcbflnibpbabDoorLawMarks
namespace Go.Proofs.YthbmcbflnibpbabDoor
/-- one may begin at v -/
def begins (a : List Nat) (v : Nat) : Bool := decide (0 < wayN a (2 ^ a.length - 1) (sdiff (2 ^ a.length - 1) (2 ^ v)) v)
open Classical in
noncomputable def resFullPath (g : List (List Int)) : List Int × Bool :=
  if GOk g then match (List.range g.length).find? (begins (nb g)) with
    | some v => (ints (v :: wayL (nb g) (2 ^ (nb g).length - 1) (sdiff (2 ^ (nb g).length - 1) (2 ^ v)) v), true)
    | none => ([], false)
  else ([], false)
theorem resFullPath_small (g : List (List Int)) (hgl : g.length ≤ 1048576) (hl : ∀ x ∈ g, x.length ≤ 1048576) : (resFullPath g).1.length ≤ 1048576 := by
  unfold resFullPath
  split
  · split
    · rename_i v _
      rw [ints_len, List.length_cons]
      have := wayL_len (a := nb g) (last := 2 ^ (nb g).length - 1) (card (sdiff (2 ^ (nb g).length - 1) (2 ^ v))) (sdiff (2 ^ (nb g).length - 1) (2 ^ v)) v
      have := card_le16 (sdiff (2 ^ (nb g).length - 1) (2 ^ v))
      unfold wayL; omega
    · simp
  · simp
theorem last_all (a : List Nat) : LastIs a (2 ^ a.length - 1) false := by
  intro v hv
  rw [if_neg (by decide), full_bit, decide_eq_true hv]
/-- a loop over the first numbers that ends at the first of its kind -/
theorem lp_first0 {S O : Type} {step : S → Option (S ⊕ (Unit ⊕ O))} (st : Nat → S) (n : Nat) (c : Nat → Bool) (r : Nat → O) (h1 : ∀ k, k < n → c k = false → step (st k) = some (.inl (st (k + 1)))) (h2 : ∀ k, k < n → c k = true → step (st k) = some (.inr (.inr (r k))))
    (h3 : step (st n) = some (.inr (.inl ()))) : lp step (st 0) = some (match (List.range n).find? c with | some k => .inr (r k) | none => .inl ()) := by
  cases e : (List.range n).find? c with
  | none =>
    rw [List.find?_eq_none] at e
    exact lp_up st n (fun k hk => h1 k hk (by have := e k (List.mem_range.2 hk); simpa using this)) h3
  | some m =>
    have hm := List.mem_range.1 (List.mem_of_find?_eq_some e)
    have hc := List.find?_some e
    have hb : ∀ k, k < m → c k = false := fun k hk => by
      rw [List.find?_range_eq_some] at e
      simpa using e.2.2 k hk
    exact lp_up st m (fun k hk => h1 k (by omega) (hb k hk)) (h2 m hm hc)
theorem specFullPath_eq (g : List (List Int)) (hgl : g.length ≤ 1048576) (hl : ∀ x ∈ g, x.length ≤ 1048576) : F_spec_FullPath g = some (resFullPath g) := by
  unfold F_spec_FullPath resFullPath
  rw [cal_of (specGraphOk_eq g hl)]
  by_cases hg : GOk g
  case neg => rw [if_pos (by simpa using hg), if_neg hg]
  have hnl := nb_len g
  have h16 := hg.n16
  have h1 := hg.n1
  have hb : ∀ v (h : v < (nb g).length), (nb g)[v] < 2 ^ (nb g).length := fun v h => by rw [hnl]; exact nb_lt hg h
  have hp := pow16 (show (nb g).length ≤ 16 by omega)
  have hp2 : 2 ^ 1 ≤ 2 ^ (nb g).length := Nat.pow_le_pow_right (by decide) (by omega)
  rw [if_neg (by simpa using hg), if_pos hg, cal_of (l25Bits_eq hg), cal_of (l28Table_eq (by omega) hb false (last_all _))]
  have hT : ∀ v, v < (nb g).length → T28 (nb g) (2 ^ (nb g).length - 1) (2 ^ (nb g).length - 1) v = (wayN (nb g) (2 ^ (nb g).length - 1) (sdiff (2 ^ (nb g).length - 1) (2 ^ v)) v : Int) := fun v hv => by
    unfold T28; rw [if_pos (by rw [full_bit]; simpa using hv)]
  have key := lp_first0 (step := fun s => F_spec_FullPath_l1 g (ints (nb g)) s.1 s.2) (fun k => (tab28 (nb g) (2 ^ (nb g).length - 1) (2 ^ (nb g).length), (k : Int))) g.length (begins (nb g)) (fun v => (ints (v :: wayL (nb g) (2 ^ (nb g).length - 1) (sdiff (2 ^ (nb g).length - 1) (2 ^ v)) v), true)) ?_ ?_ ?_
  · rw [show ((0 : Nat) : Int) = 0 from rfl] at key
    rw [key]
    cases (List.range g.length).find? (begins (nb g)) with
    | none => rw [bnd_l rfl]; rfl
    | some v => rw [bnd_r rfl]
  · intro v hv hc
    unfold begins at hc
    rw [decide_eq_false_iff_not] at hc
    simp only [F_spec_FullPath_l1, F_spec_l1Size]
    rw [cal_some_eq, if_pos (by omega), cal_of (l25All_eq h16), ← hnl, tab28_idx (by omega) (by omega) (by omega), row28_idx (by omega), hT v (by omega), if_neg (by omega), ck_of (inI (by omega) (by omega))]; rfl
  · intro v hv hc
    unfold begins at hc
    rw [decide_eq_true_iff] at hc
    simp only [F_spec_FullPath_l1, F_spec_l1Size]
    rw [cal_some_eq, if_pos (by omega), cal_of (l25All_eq h16), ← hnl, tab28_idx (by omega) (by omega) (by omega), row28_idx (by omega), hT v (by omega), if_pos (by omega), cal_of (l28Least_eq (by omega) hb (by omega) hc)]
  · simp only [F_spec_FullPath_l1, F_spec_l1Size]
    rw [cal_some_eq, if_neg (by omega)]
theorem implFullPath_eq (g : List (List Int)) (hgl : g.length ≤ 1048576) (hl : ∀ x ∈ g, x.length ≤ 1048576) : F_impl_FullPath g = some (resFullPath g) := by
  unfold F_impl_FullPath resFullPath
  rw [cal_of (implGraphOk_eq g hgl hl)]
  by_cases hg : GOk g
  case neg => rw [if_pos (by simpa using hg), if_neg hg]
  have hnl := nb_len g
  have h16 := hg.n16
  have h1 := hg.n1
  have hb : ∀ v (h : v < (nb g).length), (nb g)[v] < 2 ^ (nb g).length := fun v h => by rw [hnl]; exact nb_lt hg h
  have hp0 : 0 < 2 ^ (nb g).length := Nat.two_pow_pos _
  rw [if_neg (by simpa using hg), if_pos hg, cal_of (netsOf_eq hg), cal_of (all_eq (by omega)), cal_of (endings_eq (by omega) hb (by omega) (by omega))]
  have key := lp_first0 (step := fun s => F_impl_FullPath_l1 (bvs (nb g)) (bvs (tbE (nb g) (2 ^ (nb g).length - 1) 0)) s) (fun k => (k : Int)) g.length (begins (nb g)) (fun v => (ints (v :: wayL (nb g) (2 ^ (nb g).length - 1) (sdiff (2 ^ (nb g).length - 1) (2 ^ v)) v), true)) ?_ ?_ ?_
  · rw [show ((0 : Nat) : Int) = 0 from rfl] at key
    rw [key]
    cases (List.range g.length).find? (begins (nb g)) with
    | none => rw [bnd_l rfl]; rfl
    | some v => rw [bnd_r rfl]
  · intro v hv hc
    unfold begins at hc
    rw [decide_eq_false_iff_not] at hc
    simp only [F_impl_FullPath_l1]
    rw [bvs_len, if_pos (by omega), cal_of (tripFrom_eq (by omega) hb (by omega)), if_neg hc, if_neg (fun h => h rfl), ck_of (inI (by omega) (by omega))]; rfl
  · intro v hv hc
    unfold begins at hc
    rw [decide_eq_true_iff] at hc
    have hsm := wayL_len (a := nb g) (last := 2 ^ (nb g).length - 1) (card (sdiff (2 ^ (nb g).length - 1) (2 ^ v))) (sdiff (2 ^ (nb g).length - 1) (2 ^ v)) v
    have hcc := card_le16 (sdiff (2 ^ (nb g).length - 1) (2 ^ v))
    simp only [F_impl_FullPath_l1]
    rw [bvs_len, if_pos (by omega), cal_of (tripFrom_eq (by omega) hb (by omega)), if_pos hc, if_pos (by simp [ints]), cal_of (wide_id _ (by rw [ints_len, List.length_cons]; unfold wayL; omega))]
  · simp only [F_impl_FullPath_l1]
    rw [bvs_len, if_neg (by omega)]
theorem T_FnExactFullPath (x0 : List (List Int)) (hx0 : Sz.ok x0) : F_laws_FnExactFullPath x0 = some true := by
  unfold F_laws_FnExactFullPath
  obtain ⟨m0, hm0, h0⟩ := szGraph_eq x0 1048576 (by omega) (by omega) hx0
  rw [cal_of hm0]
  rcases h0 with h0 | ⟨b0, e0, l0, r0⟩
  · rw [if_pos h0]
  rw [if_neg (by omega)]
  have hS := specFullPath_eq x0 l0 r0
  have hI := implFullPath_eq x0 l0 r0
  have hB := resFullPath_small x0 l0 r0
  generalize resFullPath x0 = R at hS hI hB
  have he0 : F_laws_eqInt64S R.1 R.1 = some true := by rw [eqInt64S_eq R.1 R.1 (by have := hB; omega)]; simp
  obtain ⟨k0, q0, hk0⟩ : ∃ k : Int, ∃ q, F_laws_markGraph x0 1 = some (k, q) ∧ 0 ≤ k ∧ k ≤ 1 + 1099511627776 := by
    have hsum := sumLen_le (n := 1048576) r0
    have : sumLen x0 ≤ 1048576 * 1048576 := Nat.le_trans hsum (Nat.mul_le_mul_right _ l0)
    exact ⟨_, _, markGraph_eq x0 1 l0 r0 (by omega) (by omega), by omega, by omega⟩
  obtain ⟨m_r0, z_r0, hz_r0, hh_r0, hn_r0⟩ : ∃ k : Int, ∃ q, F_laws_markInt64S R.1 1 = some (k, q) ∧ F_laws_heldInt64S q 1 = some k ∧ 0 ≤ k ∧ k ≤ 1 + 4398046511104 := by
    have := hB
    exact ⟨_, _, markInt64S_eq R.1 1 (by have := hB; omega) (by omega) (by omega), heldInt64S_marks 1 R.1.length (by have := hB; omega) (by omega) (by omega), by omega, by omega⟩
  rw [cal_of (toGraph_eq x0 l0 r0), cal_of hS, cal_of (toGraph_eq x0 l0 r0), cal_of hI, cal_of he0, if_neg (by simp), if_neg (by simp), cal_of (toGraph_eq x0 l0 r0), cal_of (eqGraph_eq x0 l0 r0), if_neg (by simp), cal_of hk0.1, if_neg (by simp only; omega), cal_of he0, if_neg (by simp), if_neg (by simp), cal_of hz_r0]
  simp only
  rw [cal_of hh_r0, if_neg (by omega), if_neg (by simp), cal_of (toGraph_eq x0 l0 r0), cal_of hI, cal_of he0, if_neg (by simp), if_neg (by simp), cal_of hh_r0, if_neg (by omega), if_neg (by simp)]
end Go.Proofs.YthbmcbflnibpbabDoor

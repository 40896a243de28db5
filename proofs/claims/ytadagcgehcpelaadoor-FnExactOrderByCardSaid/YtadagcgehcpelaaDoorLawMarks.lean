/- The laws' helpers: numbers written into memory and found again. -/
import Derived.Test.YtadagcgehcpelaaDoorF
import Derived.Test.YtadagcgehcpelaaDoorLawSz
import Derived.Test.YtadagcgehcpelaaDoorLawCopy
namespace Go.Proofs.YtadagcgehcpelaaDoor
/-- the numbers from k on -/
def marks (k : Int) (n : Nat) : List Int := (List.range n).map fun (i : Nat) => k + (i : Int)
theorem marks_length (k : Int) (n : Nat) : (marks k n).length = n := by simp [marks]
theorem marks_get (k : Int) (n i : Nat) (h : i < (marks k n).length) : (marks k n)[i] = k + i := by simp [marks]
theorem marks_succ (k : Int) (n : Nat) : marks k (n + 1) = marks k n ++ [k + (n : Int)] := by simp [marks, List.range_succ]
theorem markInt64S_eq (a : List Int) (k : Int) (ha : a.length ≤ 1099511627776) (h0 : 0 ≤ k) (h1 : k ≤ 1152921504606846976) : F_laws_markInt64S a k = some (k + a.length, marks k a.length) := by
  unfold F_laws_markInt64S
  have hloop : lp (fun s => F_laws_markInt64S_l1 s.1 s.2.1 s.2.2) (a, k, 0) = some (.inl (k + a.length, marks k a.length)) := by
    refine lp_upto (fun i => (marks k i ++ a.drop i, k + i, (i : Int))) a.length (by simp [marks]) (fun i hi => ?_) ?_
    · simp only [F_laws_markInt64S_l1]
      have hl : (marks k i).length = i := marks_length k i
      rw [if_pos (by simp; omega), idx_nat (by simp; omega), ck_of (inI (by omega) (by omega)), ck_of (inI (by omega) (by omega))]
      refine inl_eq (pair_eq ?_ (pair_eq (by omega) (by omega)))
      rw [marks_succ, Int.toNat_natCast, set_app (y := a[i]) (post := a.drop (i + 1)) (by rw [List.drop_eq_getElem_cons hi]) hl, List.append_assoc]; rfl
    · simp only [F_laws_markInt64S_l1]
      have hl := marks_length k a.length
      rw [if_neg (by simp; omega)]; simp
  rw [bnd_l hloop]; rfl
theorem heldInt64S_marks (k : Int) (n : Nat) (hn : n ≤ 1099511627776) (h0 : 0 ≤ k) (h1 : k ≤ 1152921504606846976) : F_laws_heldInt64S (marks k n) k = some (k + n) := by
  unfold F_laws_heldInt64S
  have hl := marks_length k n
  have hloop : lp (fun s => F_laws_heldInt64S_l1 (marks k n) s.1 s.2) (k, 0) = some (.inl (k + n)) := by
    refine lp_upto (fun i => (k + i, (i : Int))) n (by simp) (fun i hi => ?_) ?_
    · simp only [F_laws_heldInt64S_l1]
      rw [if_pos (by rw [hl]; omega), idx_nat (by omega), marks_get, if_neg (by simp), ck_of (inI (by omega) (by omega)), ck_of (inI (by omega) (by omega))]
      exact inl_eq (pair_eq (by omega) (by omega))
    · simp only [F_laws_heldInt64S_l1]
      rw [if_neg (by rw [hl]; omega)]
  rw [bnd_l hloop]; rfl
/-- how many numbers in rows -/
def sumLen (a : List (List Int)) : Nat := (a.map List.length).sum
theorem sumLen_le {n : Nat} : ∀ {a : List (List Int)}, (∀ x ∈ a, x.length ≤ n) → sumLen a ≤ a.length * n
  | [], _ => by simp [sumLen]
  | r :: a, h => by
    have h1 := h r (List.mem_cons_self ..)
    have h2 := sumLen_le (a := a) (fun x hx => h x (List.mem_cons_of_mem _ hx))
    simp only [sumLen, List.map_cons, List.sum_cons, List.length_cons, Nat.add_mul, Nat.one_mul] at *
    omega
def marksSS (k : Int) : List (List Int) → List (List Int)
  | [] => []
  | r :: a => marks k r.length :: marksSS (k + r.length) a
theorem marksSS_length : ∀ (k : Int) (a : List (List Int)), (marksSS k a).length = a.length
  | _, [] => rfl
  | k, r :: a => by simp [marksSS, marksSS_length]
theorem markInt64SS_eq (a : List (List Int)) (k : Int) (ha : a.length ≤ 1048576) (hr : ∀ x ∈ a, x.length ≤ 1048576) (h0 : 0 ≤ k) (h1 : k ≤ 4611686018427387) : F_laws_markInt64SS a k = some (k + sumLen a, marksSS k a) := by
  unfold F_laws_markInt64SS
  have key : ∀ (rest pre : List (List Int)) (k : Int), 0 ≤ k → k ≤ 1152921504606846976 - rest.length * 1048576 → pre.length + rest.length ≤ 1048576 → (∀ x ∈ rest, x.length ≤ 1048576) →
      lp (fun s => F_laws_markInt64SS_l1 s.1 s.2.1 s.2.2) (pre ++ rest, k, (pre.length : Int)) = some (.inl (k + sumLen rest, pre ++ marksSS k rest)) := by
    intro rest
    induction rest with
    | nil =>
      intro pre k _ _ _ _
      rw [lp_unfold]; simp only [F_laws_markInt64SS_l1]
      rw [if_neg (by simp)]
      simp [sumLen, marksSS]
    | cons r rest ih =>
      intro pre k h0 h1 hl hx
      have hrl := hx r (List.mem_cons_self ..)
      simp only [List.length_cons] at h1 hl
      have hs : F_laws_markInt64SS_l1 (pre ++ r :: rest) k (pre.length : Int) = some (.inl ((pre ++ [marks k r.length]) ++ rest, k + r.length, ((pre ++ [marks k r.length]).length : Int))) := by
        unfold F_laws_markInt64SS_l1
        rw [if_pos (by simp; omega), idx_nat (by simp)]
        have e : (pre ++ r :: rest)[pre.length]'(by simp) = r := by simp
        rw [e, cal_of (markInt64S_eq r k (by omega) h0 (by omega)), ck_of (inI (by omega) (by omega))]
        refine inl_eq (pair_eq ?_ (pair_eq rfl (by simp)))
        rw [Int.toNat_natCast, set_app rfl rfl]; simp
      rw [lp_unfold]; simp only [hs]
      rw [ih _ _ (by omega) (by omega) (by simp; omega) (fun x hx' => hx x (List.mem_cons_of_mem _ hx'))]
      simp only [sumLen, List.map_cons, List.sum_cons, marksSS, List.append_assoc, List.singleton_append]
      refine congrArg some (congrArg Sum.inl (pair_eq (by omega) rfl))
  have := key a [] k h0 (by omega) (by simpa using ha) hr
  simp only [List.nil_append, List.length_nil] at this
  rw [show ((0 : Nat) : Int) = 0 from rfl] at this
  rw [bnd_l this]; rfl
theorem markGraph_eq (a : List (List Int)) (k : Int) (ha : a.length ≤ 1048576) (hr : ∀ x ∈ a, x.length ≤ 1048576) (h0 : 0 ≤ k) (h1 : k ≤ 4611686018427387) : F_laws_markGraph a k = some (k + sumLen a, marksSS k a) := by
  unfold F_laws_markGraph
  rw [cal_of (markInt64SS_eq a k ha hr h0 h1)]
/-- parts: two numbers and a row each -/
def lenPs (a : List (Int × Int × List Int)) : Nat := (a.map fun x => x.2.2.length + 2).sum
def marksPS (k : Int) : List (Int × Int × List Int) → List (Int × Int × List Int)
  | [] => []
  | r :: a => (k, k + 1, marks (k + 1 + 1) r.2.2.length) :: marksPS (k + 1 + 1 + r.2.2.length) a
theorem lenPs_le {n : Nat} : ∀ {a : List (Int × Int × List Int)}, (∀ x ∈ a, x.2.2.length ≤ n) → lenPs a ≤ a.length * (n + 2)
  | [], _ => by simp [lenPs]
  | r :: a, h => by
    have h1 := h r (List.mem_cons_self ..)
    have h2 := lenPs_le (a := a) (fun x hx => h x (List.mem_cons_of_mem _ hx))
    simp only [lenPs, List.map_cons, List.sum_cons, List.length_cons, Nat.add_mul, Nat.one_mul] at *
    omega
end Go.Proofs.YtadagcgehcpelaaDoor

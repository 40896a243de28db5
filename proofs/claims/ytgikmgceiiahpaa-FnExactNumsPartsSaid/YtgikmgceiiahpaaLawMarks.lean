/- The laws' helpers: numbers written into memory and found again. -/
import Derived.Test.YtgikmgceiiahpaaF
import Derived.Test.YtgikmgceiiahpaaLawSz
import Derived.Test.YtgikmgceiiahpaaLawCopy
namespace Go.Proofs.Ytgikmgceiiahpaa
/-- the numbers from k on -/
def marks (k : Int) (n : Nat) : List Int := (List.range n).map fun (i : Nat) => k + (i : Int)
theorem marks_length (k : Int) (n : Nat) : (marks k n).length = n := by simp [marks]
theorem marks_get (k : Int) (n i : Nat) (h : i < (marks k n).length) : (marks k n)[i] = k + i := by simp [marks]
theorem marks_succ (k : Int) (n : Nat) : marks k (n + 1) = marks k n ++ [k + (n : Int)] := by simp [marks, List.range_succ]
theorem markInt64S_eq (a : List Int) (k : Int) (ha : a.length ≤ 1099511627776) (h0 : 0 ≤ k) (h1 : k ≤ 1152921504606846976) : F_laws_markInt64S a k = some (k + a.length, marks k a.length) := by
  unfold F_laws_markInt64S
  have hloop : lp (fun s => F_laws_markInt64S_l1 s.1 s.2.1 s.2.2) (a, k, 0) = some (.inl (k + a.length, marks k a.length)) := by
    refine lp_upto (fun i => (marks k i ++ a.drop i, k + i, (i : Int))) a.length (by simp [marks]) (fun i hi => ?_) ?_
    · simp only [F_laws_markInt64S_l1]
      have hl : (marks k i).length = i := marks_length k i
      rw [if_pos (by simp; omega), idx_nat (by simp; omega), ck_of (inI (by omega) (by omega)), ck_of (inI (by omega) (by omega))]
      refine inl_eq (pair_eq ?_ (pair_eq (by omega) (by omega)))
      rw [marks_succ, Int.toNat_natCast, set_app (y := a[i]) (post := a.drop (i + 1)) (by rw [List.drop_eq_getElem_cons hi]) hl, List.append_assoc]; rfl
    · simp only [F_laws_markInt64S_l1]
      have hl := marks_length k a.length
      rw [if_neg (by simp; omega)]; simp
  rw [bnd_l hloop]; rfl
theorem heldInt64S_marks (k : Int) (n : Nat) (hn : n ≤ 1099511627776) (h0 : 0 ≤ k) (h1 : k ≤ 1152921504606846976) : F_laws_heldInt64S (marks k n) k = some (k + n) := by
  unfold F_laws_heldInt64S
  have hl := marks_length k n
  have hloop : lp (fun s => F_laws_heldInt64S_l1 (marks k n) s.1 s.2) (k, 0) = some (.inl (k + n)) := by
    refine lp_upto (fun i => (k + i, (i : Int))) n (by simp) (fun i hi => ?_) ?_
    · simp only [F_laws_heldInt64S_l1]
      rw [if_pos (by rw [hl]; omega), idx_nat (by omega), marks_get, if_neg (by simp), ck_of (inI (by omega) (by omega)), ck_of (inI (by omega) (by omega))]
      exact inl_eq (pair_eq (by omega) (by omega))
    · simp only [F_laws_heldInt64S_l1]
      rw [if_neg (by rw [hl]; omega)]
  rw [bnd_l hloop]; rfl
/-- how many numbers in rows -/
def sumLen (a : List (List Int)) : Nat := (a.map List.length).sum
theorem sumLen_le {n : Nat} : ∀ {a : List (List Int)}, (∀ x ∈ a, x.length ≤ n) → sumLen a ≤ a.length * n
  | [], _ => by simp [sumLen]
  | r :: a, h => by
    have h1 := h r (List.mem_cons_self ..)
    have h2 := sumLen_le (a := a) (fun x hx => h x (List.mem_cons_of_mem _ hx))
    simp only [sumLen, List.map_cons, List.sum_cons, List.length_cons, Nat.add_mul, Nat.one_mul] at *
    omega
def marksSS (k : Int) : List (List Int) → List (List Int)
  | [] => []
  | r :: a => marks k r.length :: marksSS (k + r.length) a
theorem marksSS_length : ∀ (k : Int) (a : List (List Int)), (marksSS k a).length = a.length
  | _, [] => rfl
  | k, r :: a => by simp [marksSS, marksSS_length]
/-- parts: two numbers and a row each -/
def lenPs (a : List (Int × Int × List Int)) : Nat := (a.map fun x => x.2.2.length + 2).sum
def marksPS (k : Int) : List (Int × Int × List Int) → List (Int × Int × List Int)
  | [] => []
  | r :: a => (k, k + 1, marks (k + 1 + 1) r.2.2.length) :: marksPS (k + 1 + 1 + r.2.2.length) a
theorem markPartS_eq (a : List (Int × Int × List Int)) (k : Int) (ha : a.length ≤ 1048576) (hr : ∀ x ∈ a, x.2.2.length ≤ 1048576) (h0 : 0 ≤ k) (h1 : k ≤ 4611686018427387) : F_laws_markPartS a k = some (k + lenPs a, marksPS k a) := by
  unfold F_laws_markPartS
  have key : ∀ (rest pre : List (Int × Int × List Int)) (k : Int), 0 ≤ k → k ≤ 1152921504606846976 - rest.length * 1048578 → pre.length + rest.length ≤ 1048576 → (∀ x ∈ rest, x.2.2.length ≤ 1048576) →
      lp (fun s => F_laws_markPartS_l1 s.1 s.2.1 s.2.2) (pre ++ rest, k, (pre.length : Int)) = some (.inl (k + lenPs rest, pre ++ marksPS k rest)) := by
    intro rest
    induction rest with
    | nil =>
      intro pre k _ _ _ _
      rw [lp_unfold]; simp only [F_laws_markPartS_l1]
      rw [if_neg (by simp)]
      simp [lenPs, marksPS]
    | cons r rest ih =>
      intro pre k h0 h1 hl hx
      have hrl := hx r (List.mem_cons_self ..)
      obtain ⟨r1, r2, r3⟩ := r
      simp only at hrl
      simp only [List.length_cons] at h1 hl
      have hs : F_laws_markPartS_l1 (pre ++ (r1, r2, r3) :: rest) k (pre.length : Int) = some (.inl ((pre ++ [(k, k + 1, marks (k + 1 + 1) r3.length)]) ++ rest, k + 1 + 1 + r3.length, ((pre ++ [(k, k + 1, marks (k + 1 + 1) r3.length)]).length : Int))) := by
        unfold F_laws_markPartS_l1
        have e : ∀ q : Int × Int × List Int, (pre ++ q :: rest)[pre.length]'(by simp) = q := fun q => by simp
        have st : ∀ q q' : Int × Int × List Int, (pre ++ q :: rest).set (pre.length : Int).toNat q' = pre ++ q' :: rest := fun q q' => by rw [Int.toNat_natCast, set_app rfl rfl]
        rw [if_pos (by simp; omega), idx_nat (by simp), e, ck_of (inI (by omega) (by omega))]
        simp only [st]
        rw [idx_nat (by simp), e, ck_of (inI (by omega) (by omega))]
        simp only [st]
        rw [idx_nat (by simp), e]
        simp only
        rw [cal_of (markInt64S_eq r3 (k + 1 + 1) (by omega) (by omega) (by omega)), ck_of (inI (by omega) (by omega))]
        refine inl_eq (pair_eq ?_ (pair_eq rfl (by simp)))
        simp
      rw [lp_unfold]; simp only [hs]
      rw [ih _ _ (by omega) (by omega) (by simp; omega) (fun x hx' => hx x (List.mem_cons_of_mem _ hx'))]
      simp only [lenPs, List.map_cons, List.sum_cons, marksPS, List.append_assoc, List.singleton_append]
      refine congrArg some (congrArg Sum.inl (pair_eq (by omega) rfl))
  have := key a [] k h0 (by omega) (by simpa using ha) hr
  simp only [List.nil_append, List.length_nil] at this
  rw [show ((0 : Nat) : Int) = 0 from rfl] at this
  rw [bnd_l this]; rfl
theorem heldPartS_marks (a : List (Int × Int × List Int)) (k : Int) (ha : a.length ≤ 1048576) (hr : ∀ x ∈ a, x.2.2.length ≤ 1048576) (h0 : 0 ≤ k) (h1 : k ≤ 4611686018427387) : F_laws_heldPartS (marksPS k a) k = some (k + lenPs a) := by
  unfold F_laws_heldPartS
  have key : ∀ (rest : List (Int × Int × List Int)) (pre : List (Int × Int × List Int)) (k : Int), 0 ≤ k → k ≤ 1152921504606846976 - rest.length * 1048578 → pre.length + rest.length ≤ 1048576 → (∀ x ∈ rest, x.2.2.length ≤ 1048576) →
      lp (fun s => F_laws_heldPartS_l1 (pre ++ marksPS k rest) s.1 s.2) (k, (pre.length : Int)) = some (.inl (k + lenPs rest)) := by
    intro rest
    induction rest with
    | nil =>
      intro pre k _ _ _ _
      rw [lp_unfold]; simp only [F_laws_heldPartS_l1]
      rw [if_neg (by simp [marksPS])]
      simp [lenPs]
    | cons r rest ih =>
      intro pre k h0 h1 hl hx
      have hrl := hx r (List.mem_cons_self ..)
      obtain ⟨r1, r2, r3⟩ := r
      simp only at hrl
      simp only [List.length_cons] at h1 hl
      have hs : F_laws_heldPartS_l1 (pre ++ marksPS k ((r1, r2, r3) :: rest)) k (pre.length : Int) = some (.inl (k + 1 + 1 + r3.length, ((pre ++ [(k, k + 1, marks (k + 1 + 1) r3.length)]).length : Int))) := by
        unfold F_laws_heldPartS_l1
        have e : (pre ++ marksPS k ((r1, r2, r3) :: rest))[pre.length]'(by simp [marksPS]) = (k, k + 1, marks (k + 1 + 1) r3.length) := by simp [marksPS]
        rw [if_pos (by simp [marksPS]; omega), idx_nat (by simp [marksPS]), e, if_neg (by simp), ck_of (inI (by omega) (by omega)), idx_nat (by simp [marksPS]), e, if_neg (by simp), ck_of (inI (by omega) (by omega)), idx_nat (by simp [marksPS]), e]
        simp only
        rw [cal_of (heldInt64S_marks (k + 1 + 1) r3.length (by omega) (by omega) (by omega)), if_neg (by omega), ck_of (inI (by omega) (by omega))]
        exact inl_eq (pair_eq rfl (by simp))
      rw [lp_unfold]; simp only [hs]
      have e2 : pre ++ marksPS k ((r1, r2, r3) :: rest) = (pre ++ [(k, k + 1, marks (k + 1 + 1) r3.length)]) ++ marksPS (k + 1 + 1 + r3.length) rest := by simp [marksPS]
      rw [e2, ih _ _ (by omega) (by omega) (by simp; omega) (fun x hx' => hx x (List.mem_cons_of_mem _ hx'))]
      simp only [lenPs, List.map_cons, List.sum_cons]
      exact congrArg some (congrArg Sum.inl (by omega))
  have := key a [] k h0 (by omega) (by simpa using ha) hr
  simp only [List.nil_append, List.length_nil] at this
  rw [show ((0 : Nat) : Int) = 0 from rfl] at this
  rw [bnd_l this]; rfl
theorem lenPs_le {n : Nat} : ∀ {a : List (Int × Int × List Int)}, (∀ x ∈ a, x.2.2.length ≤ n) → lenPs a ≤ a.length * (n + 2)
  | [], _ => by simp [lenPs]
  | r :: a, h => by
    have h1 := h r (List.mem_cons_self ..)
    have h2 := lenPs_le (a := a) (fun x hx => h x (List.mem_cons_of_mem _ hx))
    simp only [lenPs, List.map_cons, List.sum_cons, List.length_cons, Nat.add_mul, Nat.one_mul] at *
    omega
theorem eqPart_eq (x y : Int × Int × List Int) (h : x.2.2.length ≤ 1099511627776) : F_laws_eqPart x.1 x.2.1 x.2.2 y.1 y.2.1 y.2.2 = some (decide (x = y)) := by
  obtain ⟨a, b, c⟩ := x
  obtain ⟨a', b', c'⟩ := y
  unfold F_laws_eqPart
  rw [eqInt64S_eq c c' h]
  simp only [Prod.mk.injEq, cal_some_eq, decide_eq_true_eq]
  repeat' split
  all_goals simp_all
theorem eqPartS_eq (a b : List (Int × Int × List Int)) (h : a.length ≤ 1099511627776) (hr : ∀ x ∈ a, x.2.2.length ≤ 1099511627776) : F_laws_eqPartS a b = some (decide (a = b)) := by
  unfold F_laws_eqPartS
  exact eq_loop (step := fun s => F_laws_eqPartS_l1 a b s) a b (fun x y => F_laws_eqPart x.1 x.2.1 x.2.2 y.1 y.2.1 y.2.2) (fun _ => rfl) h (fun x hx y _ => eqPart_eq x y (hr x hx))
end Go.Proofs.Ytgikmgceiiahpaa

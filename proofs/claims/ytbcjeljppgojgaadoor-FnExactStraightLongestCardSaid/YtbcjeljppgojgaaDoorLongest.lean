/- The longest list, the least one of several: better is a strict order, so the best of some does not turn on the order in which they are looked through. -/
import Derived.Test.YtbcjeljppgojgaaDoorLines
import Derived.Test.YtbcjeljppgojgaaDoorHamI
import Derived.Test.YtbcjeljppgojgaaDoorParts
namespace Go.Proofs.YtbcjeljppgojgaaDoor
def lexL : List Int → List Int → Bool
  | x :: xs, y :: ys => if x = y then lexL xs ys else decide (x < y)
  | _, _ => false
theorem lexL_tot : ∀ {x y : List Int}, x.length = y.length → lexL x y = false → lexL y x = false → x = y
  | [], [], _, _, _ => rfl
  | a :: x, b :: y, h, h1, h2 => by
    unfold lexL at h1 h2
    by_cases e : a = b
    · subst e
      rw [if_pos rfl] at h1 h2
      rw [lexL_tot (by simpa using h) h1 h2]
    · rw [if_neg e, decide_eq_false_iff_not] at h1
      rw [if_neg (Ne.symm e), decide_eq_false_iff_not] at h2
      omega
theorem lexL_irr : ∀ (x : List Int), lexL x x = false
  | [] => rfl
  | a :: x => by unfold lexL; rw [if_pos rfl]; exact lexL_irr x
theorem lexL_trans : ∀ {x y z : List Int}, lexL x y = true → lexL y z = true → lexL x z = true
  | [], _, _, h, _ => by unfold lexL at h; cases h
  | _ :: _, [], _, h, _ => by unfold lexL at h; cases h
  | _ :: _, _ :: _, [], _, h => by unfold lexL at h; cases h
  | a :: x, b :: y, c :: z, h1, h2 => by
    unfold lexL at h1 h2 ⊢
    by_cases e : a = b
    · subst e
      rw [if_pos rfl] at h1
      by_cases e2 : a = c
      · subst e2; rw [if_pos rfl] at h2 ⊢; exact lexL_trans h1 h2
      · rw [if_neg e2] at h2 ⊢; exact h2
    · rw [if_neg e, decide_eq_true_eq] at h1
      by_cases e2 : b = c
      · subst e2; rw [if_neg e]; exact decide_eq_true h1
      · rw [if_neg e2, decide_eq_true_eq] at h2
        rw [if_neg (by omega)]; exact decide_eq_true (by omega)
def better (x y : List Int) : Bool := decide (y.length < x.length) || (decide (x.length = y.length) && lexL x y)
theorem better_iff {x y : List Int} : better x y = true ↔ y.length < x.length ∨ (x.length = y.length ∧ lexL x y = true) := by
  unfold better; rw [Bool.or_eq_true, Bool.and_eq_true, decide_eq_true_eq, decide_eq_true_eq]
theorem better_irr (x : List Int) : better x x = false := by
  cases h : better x x with
  | false => rfl
  | true =>
    rcases better_iff.1 h with h | ⟨_, h⟩
    · omega
    · rw [lexL_irr] at h; cases h
theorem better_trans {x y z : List Int} (h1 : better x y = true) (h2 : better y z = true) : better x z = true := by
  rw [better_iff] at *
  rcases h1 with h1 | ⟨h1, h3⟩
  · rcases h2 with h2 | ⟨h2, h4⟩
    · exact .inl (by omega)
    · exact .inl (by omega)
  · rcases h2 with h2 | ⟨h2, h4⟩
    · exact .inl (by omega)
    · exact .inr ⟨by omega, lexL_trans h3 h4⟩
theorem better_tot {x y : List Int} (h1 : better x y = false) (h2 : better y x = false) : x = y := by
  have n1 : ¬ (y.length < x.length ∨ (x.length = y.length ∧ lexL x y = true)) := fun h => by rw [better_iff.2 h] at h1; cases h1
  have n2 : ¬ (x.length < y.length ∨ (y.length = x.length ∧ lexL y x = true)) := fun h => by rw [better_iff.2 h] at h2; cases h2
  have hl : x.length = y.length := by omega
  refine lexL_tot hl ?_ ?_
  · cases e : lexL x y with
    | false => rfl
    | true => exact absurd (.inr ⟨hl, e⟩) n1
  · cases e : lexL y x with
    | false => rfl
    | true => exact absurd (.inr ⟨hl.symm, e⟩) n2
def bstF (b : List Int) (l : List (List Int)) : List Int := l.foldl (fun best x => if better x best = true then x else best) b
def bst (l : List (List Int)) : List Int := bstF [] l
theorem bstF_spec : ∀ (l : List (List Int)) (b : List Int), (bstF b l = b ∨ bstF b l ∈ l) ∧ better b (bstF b l) = false ∧ ∀ x ∈ l, better x (bstF b l) = false
  | [], b => ⟨.inl rfl, better_irr b, fun x hx => by cases hx⟩
  | y :: l, b => by
    show (bstF (if better y b = true then y else b) l = b ∨ bstF (if better y b = true then y else b) l ∈ y :: l) ∧ better b (bstF (if better y b = true then y else b) l) = false ∧ ∀ x ∈ y :: l, better x (bstF (if better y b = true then y else b) l) = false
    by_cases h : better y b = true
    · rw [if_pos h]
      obtain ⟨h1, h2, h3⟩ := bstF_spec l y
      refine ⟨.inr ?_, ?_, fun x hx => ?_⟩
      · rcases h1 with h1 | h1
        · rw [h1]; exact List.mem_cons_self ..
        · exact List.mem_cons_of_mem _ h1
      · cases e : better b (bstF y l) with
        | false => rfl
        | true => rw [better_trans h e] at h2; cases h2
      · rcases List.mem_cons.1 hx with e | e
        · rw [e]; exact h2
        · exact h3 x e
    · rw [if_neg h]
      obtain ⟨h1, h2, h3⟩ := bstF_spec l b
      refine ⟨h1.imp id (List.mem_cons_of_mem _), h2, fun x hx => ?_⟩
      rcases List.mem_cons.1 hx with e | e
      · subst e
        have hb : better x b = false := by simpa using h
        cases e : better x (bstF b l) with
        | false => rfl
        | true =>
          by_cases e2 : better (bstF b l) b = true
          · rw [better_trans e e2] at hb; cases hb
          · have : bstF b l = b := better_tot (by simpa using e2) h2
            rw [this, hb] at e; cases e
      · exact h3 x e
theorem bst_set {l l' : List (List Int)} (h : ∀ x, x ∈ l ↔ x ∈ l') : bst l = bst l' := by
  obtain ⟨a1, a2, a3⟩ := bstF_spec l []
  obtain ⟨b1, b2, b3⟩ := bstF_spec l' []
  refine better_tot ?_ ?_
  · rcases a1 with e | e
    · unfold bst; rw [e]; exact b2
    · exact b3 _ ((h _).1 e)
  · rcases b1 with e | e
    · unfold bst; rw [e]; exact a2
    · exact a3 _ ((h _).2 e)
theorem bst_snoc (l : List (List Int)) (x : List Int) : bst (l ++ [x]) = if better x (bst l) = true then x else bst l := by unfold bst bstF; rw [List.foldl_append]; rfl
theorem bst_mem (l : List (List Int)) : bst l = [] ∨ bst l ∈ l := (bstF_spec l []).1
theorem compare_lt {x y : List Int} (hl : x.length = y.length) (hx : x.length ≤ 1048576) : ∃ c, F_slices_Compare_int x y = some c ∧ (c < 0 ↔ lexL x y = true) := by
  unfold F_slices_Compare_int
  have key : ∀ (m : Nat) (k : Nat), k + m = x.length → ∃ o, lp (fun s => F_slices_Compare_int_l1 x y s) (k : Int) = some o ∧ ((o = .inl () ∧ lexL (x.drop k) (y.drop k) = false) ∨ ∃ c : Int, o = .inr c ∧ (c < 0 ↔ lexL (x.drop k) (y.drop k) = true)) := by
    intro m
    induction m with
    | zero =>
      intro k hk
      refine ⟨.inl (), lp_inr ?_, .inl ⟨rfl, ?_⟩⟩
      · simp only [F_slices_Compare_int_l1]
        rw [if_neg (by omega)]
      · rw [List.drop_of_length_le (by omega)]; rfl
    | succ m ih =>
      intro k hk
      have h1 : k < x.length := by omega
      have h2 : k < y.length := by omega
      have hd : lexL (x.drop k) (y.drop k) = if x[k] = y[k] then lexL (x.drop (k + 1)) (y.drop (k + 1)) else decide (x[k] < y[k]) := by
        rw [List.drop_eq_getElem_cons h1, List.drop_eq_getElem_cons h2]; rfl
      obtain ⟨c, hc, hc0, hcl⟩ : ∃ c : Int, F_cmp_Compare_int x[k] y[k] = some c ∧ (c = 0 ↔ x[k] = y[k]) ∧ (c < 0 ↔ x[k] < y[k]) := by
        unfold F_cmp_Compare_int F_cmp_isNaN_int
        simp
        by_cases g1 : x[k] < y[k]
        · rw [if_pos g1]; exact ⟨-1, rfl, by omega, by omega⟩
        · rw [if_neg g1]
          by_cases g2 : y[k] < x[k]
          · rw [if_pos g2]; exact ⟨1, rfl, by omega, by omega⟩
          · rw [if_neg g2]; exact ⟨0, rfl, by omega, by omega⟩
      by_cases e : x[k] = y[k]
      · obtain ⟨o, h3, h4⟩ := ih (k + 1) (by omega)
        have hst : F_slices_Compare_int_l1 x y (k : Int) = some (.inl ((k + 1 : Nat) : Int)) := by
          unfold F_slices_Compare_int_l1
          rw [if_pos (by omega), idx_nat h1, if_neg (by omega), idx_nat h2, cal_of hc, if_neg (by simpa using hc0.2 e), ck_of (inI (by omega) (by omega))]; rfl
        refine ⟨o, by rw [lp_inl (step := fun s => F_slices_Compare_int_l1 x y s) hst]; exact h3, ?_⟩
        rw [hd, if_pos e]; exact h4
      · have hst : F_slices_Compare_int_l1 x y (k : Int) = some (.inr (.inr c)) := by
          unfold F_slices_Compare_int_l1
          rw [if_pos (by omega), idx_nat h1, if_neg (by omega), idx_nat h2, cal_of hc, if_pos (fun h => e (hc0.1 h))]
        refine ⟨.inr c, lp_inr (step := fun s => F_slices_Compare_int_l1 x y s) hst, .inr ⟨c, rfl, ?_⟩⟩
        rw [hd, if_neg e, decide_eq_true_eq]; exact hcl
  obtain ⟨o, h1, h2⟩ := key x.length 0 (by omega)
  rw [show ((0 : Nat) : Int) = 0 from rfl] at h1
  rw [h1]
  rcases h2 with ⟨rfl, h2⟩ | ⟨c, rfl, h2⟩
  · rw [bnd_inl_eq]
    unfold F_slices_Compare_int_k2
    rw [if_neg (by omega)]
    simp only [List.drop_zero] at h2
    exact ⟨0, rfl, by rw [h2]; simp⟩
  · rw [bnd_inr_eq]
    simp only [List.drop_zero] at h2
    exact ⟨c, rfl, h2⟩
theorem isBetter_eq {x y : List Int} (hx : x.length ≤ 1048576) (hy : y.length ≤ 1048576) : F_impl_isBetter x y = some (better x y) := by
  unfold F_impl_isBetter
  by_cases hl : x.length = y.length
  · obtain ⟨c, h1, h2⟩ := compare_lt hl hx
    rw [if_neg (by omega), cal_of h1]
    congr 1
    rw [Bool.eq_iff_iff, decide_eq_true_eq, better_iff, h2]
    exact ⟨fun h => .inr ⟨hl, h⟩, fun h => h.elim (fun h => by omega) (·.2)⟩
  · rw [if_pos (by omega)]
    congr 1
    rw [Bool.eq_iff_iff, decide_eq_true_eq, better_iff]
    exact ⟨fun h => .inl (by omega), fun h => h.elim (fun h => by omega) (fun h => absurd h.1 hl)⟩
theorem bestList_eq (l : List (List Int)) (hl : l.length ≤ 1048576) (hr : ∀ x ∈ l, x.length ≤ 1048576) : F_impl_bestList l = some (bst l) := by
  unfold F_impl_bestList
  have hb : ∀ k, (bst (l.take k)).length ≤ 1048576 := fun k => by
    rcases bst_mem (l.take k) with e | e
    · rw [e]; simp
    · exact hr _ (List.mem_of_mem_take e)
  have key := lp_upto (step := fun s => F_impl_bestList_l1 l s.1 s.2) (fun k => (bst (l.take k), (k : Int))) l.length (s := (([] : List Int), (0 : Int))) (by simp [bst, bstF]) (fun k hk => ?_) (o := .inl (bst l)) ?_
  · rw [key]; rfl
  · simp only [F_impl_bestList_l1]
    rw [if_pos (by omega), idx_nat hk, cal_of (isBetter_eq (hr _ (List.getElem_mem hk)) (hb k)), take_succ_of hk, bst_snoc]
    split
    · rw [ck_of (inI (by omega) (by omega))]; rfl
    · rw [ck_of (inI (by omega) (by omega))]; rfl
  · simp only [F_impl_bestList_l1]
    rw [if_neg (by omega), List.take_length]
theorem l1Less_eq {x y : List Int} (hl : x.length = y.length) (hx : x.length ≤ 1048576) : F_spec_l1Less x y = some (lexL x y) := by
  unfold F_spec_l1Less
  rw [if_neg (by omega)]
  have key : ∀ (m : Nat) (k : Nat), k + m = x.length → lp (fun s => F_spec_l1Less_l1 x y s) (k : Int) = some (if lexL (x.drop k) (y.drop k) = true then .inr true else .inr false) ∨ (lp (fun s => F_spec_l1Less_l1 x y s) (k : Int) = some (.inl ()) ∧ lexL (x.drop k) (y.drop k) = false) := by
    intro m
    induction m with
    | zero =>
      intro k hk
      refine .inr ⟨lp_inr ?_, ?_⟩
      · simp only [F_spec_l1Less_l1]
        rw [if_neg (by omega)]
      · rw [List.drop_of_length_le (by omega)]; rfl
    | succ m ih =>
      intro k hk
      have h1 : k < x.length := by omega
      have h2 : k < y.length := by omega
      have hd : lexL (x.drop k) (y.drop k) = if x[k] = y[k] then lexL (x.drop (k + 1)) (y.drop (k + 1)) else decide (x[k] < y[k]) := by
        rw [List.drop_eq_getElem_cons h1, List.drop_eq_getElem_cons h2]; rfl
      by_cases e : x[k] = y[k]
      · have hst : F_spec_l1Less_l1 x y (k : Int) = some (.inl ((k + 1 : Nat) : Int)) := by
          unfold F_spec_l1Less_l1
          rw [if_pos (by omega), idx_nat h1, idx_nat h2, if_neg (by omega), ck_of (inI (by omega) (by omega))]; rfl
        rw [lp_inl (step := fun s => F_spec_l1Less_l1 x y s) hst, hd, if_pos e]
        exact ih (k + 1) (by omega)
      · left
        have hst : F_spec_l1Less_l1 x y (k : Int) = some (.inr (.inr (decide (x[k] < y[k])))) := by
          unfold F_spec_l1Less_l1
          rw [if_pos (by omega), idx_nat h1, idx_nat h2, if_pos e, idx_nat h1, idx_nat h2]
        rw [lp_inr (step := fun s => F_spec_l1Less_l1 x y s) hst, hd, if_neg e]
        by_cases h : x[k] < y[k]
        · rw [decide_eq_true h]; rfl
        · rw [decide_eq_false h]; rfl
  have := key x.length 0 (by omega)
  rw [show ((0 : Nat) : Int) = 0 from rfl] at this
  simp only [List.drop_zero] at this
  rcases this with h | ⟨h, h2⟩
  · rw [h]
    cases lexL x y <;> rfl
  · rw [h, h2]; rfl
end Go.Proofs.YtbcjeljppgojgaaDoor

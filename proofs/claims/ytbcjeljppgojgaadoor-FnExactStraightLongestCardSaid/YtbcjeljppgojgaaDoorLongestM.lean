/- The longest lists that begin with each vertex: memoised by the program, plain by the reference. -/
import Derived.Test.YtbcjeljppgojgaaDoorLongestL
import Derived.Test.YtbcjeljppgojgaaDoorLawMarks
import Derived.Test.YtbcjeljppgojgaaDoorLawCopy
namespace Go.Proofs.YtbcjeljppgojgaaDoor
section
variable {a b : List Int} {cr : Bool}
theorem pa_lt (h : Line a) {u : Nat} (hu : u < a.length) : a.idxOf (u : Int) < a.length := List.idxOf_lt_length_of_mem (order_mem h.2 hu)
/-- the vertex at a place -/
def av (a : List Int) (i : Nat) : Nat := (a.getD i 0).toNat
theorem av_spec (h : Line a) {i : Nat} (hi : i < a.length) : a[i] = (av a i : Int) ∧ av a i < a.length ∧ a.idxOf (av a i : Int) = i := by
  have hb := h.2.2.1 _ (List.getElem_mem hi)
  have e : a[i] = (av a i : Int) := by unfold av; rw [getD_at hi]; omega
  refine ⟨e, by omega, ?_⟩
  rw [← e]; exact h.2.2.2.idxOf_getElem i hi
theorem av_pa (h : Line a) {u : Nat} (hu : u < a.length) : av a (a.idxOf (u : Int)) = u := by
  have h1 := pa_lt h hu
  have h2 := List.getElem_idxOf h1
  unfold av
  rw [getD_at h1, h2, Int.toNat_natCast]
/-- u follows v -/
def folV (a b : List Int) (cr : Bool) (v u : Nat) : Bool := decide (a.idxOf (v : Int) < a.idxOf (u : Int)) && (crossV a b v u == cr)
theorem folV_lt {v u : Nat} (h : folV a b cr v u = true) : a.idxOf (v : Int) < a.idxOf (u : Int) := by
  unfold folV at h; rw [Bool.and_eq_true, decide_eq_true_eq] at h; exact h.1
def lv (a b : List Int) (cr : Bool) : Nat → Nat → List Int
  | 0, _ => []
  | f + 1, v => (v : Int) :: bst (((List.range a.length).filter (folV a b cr v)).map (lv a b cr f))
theorem lv_ge (hl : Line a) : ∀ (f f' v : Nat), v < a.length → a.length - a.idxOf (v : Int) ≤ f → a.length - a.idxOf (v : Int) ≤ f' → lv a b cr f v = lv a b cr f' v
  | 0, f', v, h, h1, _ => by have := pa_lt hl h; omega
  | f + 1, 0, v, h, _, h2 => by have := pa_lt hl h; omega
  | f + 1, f' + 1, v, h, h1, h2 => by
    unfold lv
    congr 2
    refine List.map_congr_left fun u hu => ?_
    rw [List.mem_filter, List.mem_range] at hu
    have h3 := folV_lt hu.2
    exact lv_ge hl f f' u hu.1 (by omega) (by omega)
/-- the longest list that begins with v -/
def lgV (a b : List Int) (cr : Bool) (v : Nat) : List Int := lv a b cr a.length v
theorem lgV_eq (hl : Line a) {v : Nat} (hv : v < a.length) : lgV a b cr v = (v : Int) :: bst (((List.range a.length).filter (folV a b cr v)).map (lgV a b cr)) := by
  have hp := pa_lt hl hv
  obtain ⟨m, hm⟩ : ∃ m, a.length = m + 1 := ⟨a.length - 1, by omega⟩
  have e : lv a b cr a.length v = lv a b cr (m + 1) v := by rw [hm]
  show lv a b cr a.length v = _
  rw [e, lv]
  congr 2
  refine List.map_congr_left fun u hu => ?_
  rw [List.mem_filter, List.mem_range] at hu
  have h3 := folV_lt hu.2
  have h4 := pa_lt hl hu.1
  exact lv_ge hl m a.length u hu.1 (by omega) (by omega)
theorem lv_len : ∀ (f v : Nat), (lv a b cr f v).length ≤ f
  | 0, _ => by simp [lv]
  | f + 1, v => by
    unfold lv
    rw [List.length_cons]
    rcases bst_mem (((List.range a.length).filter (folV a b cr v)).map (lv a b cr f)) with e | e
    · rw [e]; simp
    · obtain ⟨u, _, hu⟩ := List.mem_map.1 e
      rw [← hu]
      have := lv_len f u
      omega
theorem lgV_len (v : Nat) : (lgV a b cr v).length ≤ a.length := lv_len _ _
theorem lgV_ne (hl : Line a) {v : Nat} (hv : v < a.length) : lgV a b cr v ≠ [] := by rw [lgV_eq hl hv]; simp
/-- the memo after a call -/
def frm (a b : List Int) (cr : Bool) : Nat → Nat → List (List Int) → List (List Int)
  | 0, _, t => t
  | f + 1, v, t => if t.getD v [] = [] then (((List.range a.length).filter (folV a b cr v)).foldl (fun t u => frm a b cr f u t) t).set v (lgV a b cr v) else t
def TI (a b : List Int) (cr : Bool) (t : List (List Int)) : Prop := t.length = a.length ∧ ∀ v, v < a.length → t.getD v [] = [] ∨ t.getD v [] = lgV a b cr v
theorem getD_set {t : List (List Int)} {v w : Nat} {x : List Int} (hv : v < t.length) : (t.set v x).getD w [] = if v = w then x else t.getD w [] := by
  rw [List.getD_eq_getElem?_getD, List.getElem?_set]
  by_cases e : v = w
  · subst e; simp [hv]
  · simp [e]
theorem TI.set {t : List (List Int)} (h : TI a b cr t) {v : Nat} (hv : v < a.length) : TI a b cr (t.set v (lgV a b cr v)) := by
  refine ⟨by rw [List.length_set]; exact h.1, fun w hw => ?_⟩
  rw [getD_set (by rw [h.1]; exact hv)]
  by_cases e : v = w
  · subst e; rw [if_pos rfl]; exact .inr rfl
  · rw [if_neg e]; exact h.2 w hw
theorem frm_keep : ∀ (f v : Nat) (t : List (List Int)), v < a.length → TI a b cr t → TI a b cr (frm a b cr f v t) ∧ ∀ w, w < a.length → t.getD w [] = lgV a b cr w → (frm a b cr f v t).getD w [] = lgV a b cr w
  | 0, v, t, _, h => ⟨h, fun w _ e => e⟩
  | f + 1, v, t, hv, h => by
    unfold frm
    by_cases c : t.getD v [] = []
    · rw [if_pos c]
      have key : ∀ (us : List Nat), (∀ u ∈ us, u < a.length) → ∀ t, TI a b cr t → TI a b cr (us.foldl (fun t u => frm a b cr f u t) t) ∧ ∀ w, w < a.length → t.getD w [] = lgV a b cr w → (us.foldl (fun t u => frm a b cr f u t) t).getD w [] = lgV a b cr w := by
        intro us
        induction us with
        | nil => intro _ t h; exact ⟨h, fun w _ e => e⟩
        | cons u us ih =>
          intro hu t h
          obtain ⟨h1, h2⟩ := frm_keep f u t (hu u (List.mem_cons_self ..)) h
          obtain ⟨h3, h4⟩ := ih (fun x hx => hu x (List.mem_cons_of_mem _ hx)) _ h1
          exact ⟨h3, fun w hw e => h4 w hw (h2 w hw e)⟩
      obtain ⟨h1, h2⟩ := key ((List.range a.length).filter (folV a b cr v)) (fun u hu => List.mem_range.1 (List.mem_filter.1 hu).1) t h
      refine ⟨h1.set hv, fun w hw e => ?_⟩
      rw [getD_set (by rw [h1.1]; exact hv)]
      by_cases e2 : v = w
      · subst e2; rw [if_pos rfl]
      · rw [if_neg e2]; exact h2 w hw e
    · rw [if_neg c]; exact ⟨h, fun w _ e => e⟩
theorem frm_fold {f : Nat} : ∀ (us : List Nat), (∀ u ∈ us, u < a.length) → ∀ t, TI a b cr t → TI a b cr (us.foldl (fun t u => frm a b cr f u t) t)
  | [], _, t, h => h
  | u :: us, hu, t, h => frm_fold us (fun x hx => hu x (List.mem_cons_of_mem _ hx)) _ (frm_keep f u t (hu u (List.mem_cons_self ..)) h).1
theorem frm_has {f v : Nat} {t : List (List Int)} (hv : v < a.length) (h : TI a b cr t) : (frm a b cr (f + 1) v t).getD v [] = lgV a b cr v := by
  unfold frm
  by_cases c : t.getD v [] = []
  · rw [if_pos c, getD_set (by rw [(frm_fold _ (fun u hu => List.mem_range.1 (List.mem_filter.1 hu).1) t h).1]; exact hv), if_pos rfl]
  · rw [if_neg c]; exact (h.2 v hv).resolve_left c
theorem from_eq (hl : Line a) (f v : Nat) (t : List (List Int)) (hv : v < a.length) (ht : TI a b cr t) (hf : a.length - a.idxOf (v : Int) ≤ f) : F_impl_from (tabB a.length (folV a b cr)) (v : Int) t = some (lgV a b cr v, frm a b cr f v t) := by
  refine fixO_ind (J := Nat × Nat × List (List Int)) (fun j => ((j.2.1 : Int), j.2.2)) (fun j => j.1) (fun j => (lgV a b cr j.2.1, frm a b cr j.1 j.2.1 j.2.2)) (fun j => j.2.1 < a.length ∧ TI a b cr j.2.2 ∧ a.length - a.idxOf (j.2.1 : Int) ≤ j.1) ?_ (f, v, t) ⟨hv, ht, hf⟩
  rintro R ⟨f, v, t⟩ ⟨hv, ht, hf⟩ ih
  simp only at hv ht hf ⊢
  have hp := pa_lt hl hv
  have h16 := hl.1.2
  obtain ⟨f, rfl⟩ : ∃ k, f = k + 1 := ⟨f - 1, by omega⟩
  have hvt : v < t.length := by rw [ht.1]; exact hv
  have e0 : t[v] = t.getD v [] := by simp [hvt]
  unfold F_impl_from_B F_impl_from_body
  dsimp only
  rw [idx_nat hvt, e0]
  by_cases c : t.getD v [] = []
  case neg =>
    rw [if_neg c]
    unfold frm
    rw [if_neg c, (ht.2 v hv).resolve_left c]
  have hlt : bset a.length (folV a b cr v) < 2 ^ 16 := Nat.lt_of_lt_of_le (bset_lt _ _) (pow16 h16)
  have hus : ∀ u ∈ (List.range a.length).filter (folV a b cr v), u < a.length ∧ folV a b cr v u = true := fun u hu => by rw [List.mem_filter, List.mem_range] at hu; exact hu
  have hul : ((List.range a.length).filter (folV a b cr v)).length ≤ a.length := Nat.le_trans (List.length_filter_le ..) (by simp)
  rw [if_pos c, idx_tabB hv, list_eq hlt, cal_some_eq, els_bset h16]
  have hL := lgV_eq (b := b) (cr := cr) hl hv
  have hfr : frm a b cr (f + 1) v t = (((List.range a.length).filter (folV a b cr v)).foldl (fun t u => frm a b cr f u t) t).set v (lgV a b cr v) := by
    conv => lhs; unfold frm
    rw [if_pos c]
  rw [hfr]
  have hTI := frm_fold (f := f) _ (fun u hu => (hus u hu).1) t ht
  generalize (List.range a.length).filter (folV a b cr v) = us at hus hul hL hTI ⊢
  have hbl : ∀ k, (bst ((us.take k).map (lgV a b cr))).length ≤ 1048576 := fun k => by
    rcases bst_mem ((us.take k).map (lgV a b cr)) with e | e
    · rw [e]; simp
    · obtain ⟨u, _, hu⟩ := List.mem_map.1 e
      rw [← hu]; have := lgV_len (a := a) (b := b) (cr := cr) u; omega
  have key := lp_upto (step := fun q : List Int × List (List Int) × Int => F_impl_from_l1 (fun z0 z1 => R (z0, z1)) (ints us) q.1 q.2.1 q.2.2) (fun k => (bst ((us.take k).map (lgV a b cr)), (us.take k).foldl (fun t u => frm a b cr f u t) t, (k : Int))) us.length (s := (([] : List Int), t, (0 : Int))) (by simp [bst, bstF]) (fun k hk => ?_) (o := .inl (bst (us.map (lgV a b cr)), us.foldl (fun t u => frm a b cr f u t) t)) ?_
  · rw [bnd_l key]
    unfold F_impl_from_k
    have hb := hbl us.length
    rw [List.take_length] at hb
    rw [app_s (show [(v : Int)].length + (bst (us.map (lgV a b cr))).length ≤ 1099511627776 by rw [List.length_singleton]; omega), idx_nat (by rw [hTI.1]; exact hv), Int.toNat_natCast, List.singleton_append, ← hL]
  · have hu := hus _ (List.getElem_mem hk)
    have h3 := folV_lt hu.2
    have hTk := frm_fold (f := f) (us.take k) (fun u hu => (hus u (List.mem_of_mem_take hu)).1) t ht
    have hR := ih (f, us[k], (us.take k).foldl (fun t u => frm a b cr f u t) t) ⟨hu.1, hTk, by simp only; omega⟩ (by simp only; omega)
    simp only at hR
    simp only [F_impl_from_l1]
    have hlen := lgV_len (a := a) (b := b) (cr := cr) us[k]
    rw [if_pos (by rw [ints_len]; omega), idx_ints hk, cal_of hR, cal_of (isBetter_eq (x := lgV a b cr us[k]) (by omega) (hbl k)), take_succ_of hk, List.map_append, List.foldl_append]
    rw [show [us[k]].map (lgV a b cr) = [lgV a b cr us[k]] from rfl, bst_snoc]
    split
    · rw [ck_of (inI (by omega) (by omega))]; rfl
    · rw [ck_of (inI (by omega) (by omega))]; rfl
  · simp only [F_impl_from_l1]
    rw [if_neg (by rw [ints_len]; omega), List.take_length]
theorem TI_zero : TI a b cr (List.replicate a.length []) := ⟨by simp, fun v hv => .inl (by simp [hv])⟩
theorem longestLists_eq (hl : Line a) : F_impl_longestLists (tabB a.length (folV a b cr)) = some ((List.range a.length).map (lgV a b cr)) := by
  have h16 := hl.1.2
  have hpos := hl.1.1
  unfold F_impl_longestLists
  rw [tabB_len, mkS_of (by omega) (by unfold lim; omega), Int.toNat_natCast]
  have hT : ∀ k, k ≤ a.length → TI a b cr ((List.range k).foldl (fun t v => frm a b cr a.length v t) (List.replicate a.length [])) := fun k hk => frm_fold _ (fun u hu => by rw [List.mem_range] at hu; omega) _ TI_zero
  have hall : ∀ k, k ≤ a.length → ∀ v, v < k → ((List.range k).foldl (fun t v => frm a b cr a.length v t) (List.replicate a.length [])).getD v [] = lgV a b cr v := by
    intro k
    induction k with
    | zero => intro _ v hv; omega
    | succ k ih =>
      intro hk v hv
      rw [List.range_succ, List.foldl_append, List.foldl_cons, List.foldl_nil]
      by_cases e : v = k
      · subst e
        obtain ⟨m, hm⟩ : ∃ m, a.length = m + 1 := ⟨a.length - 1, by omega⟩
        have := frm_has (a := a) (b := b) (cr := cr) (f := m) (v := v) (by omega) (hT v (by omega))
        rw [← hm] at this
        exact this
      · exact (frm_keep a.length k _ (by omega) (hT k (by omega))).2 v (by omega) (ih (by omega) v (by omega))
  have key := lp_upto (step := fun s => F_impl_longestLists_l1 (tabB a.length (folV a b cr)) s.1 s.2) (fun k => ((List.range k).foldl (fun t v => frm a b cr a.length v t) (List.replicate a.length []), (k : Int))) a.length (s := (List.replicate a.length [], (0 : Int))) (by simp) (fun k hk => ?_) (o := .inl ((List.range a.length).map (lgV a b cr))) ?_
  · rw [key]; rfl
  · simp only [F_impl_longestLists_l1]
    rw [if_pos (by rw [tabB_len]; omega), cal_of (from_eq hl a.length k _ hk (hT k (by omega)) (by omega)), ck_of (inI (by omega) (by omega)), List.range_succ, List.foldl_append]; rfl
  · simp only [F_impl_longestLists_l1]
    rw [if_neg (by rw [tabB_len]; omega)]
    have hlen := (hT a.length (Nat.le_refl _)).1
    congr 3
    apply List.ext_getElem
    · rw [hlen]; simp
    · intro v h1 h2
      have := hall a.length (Nat.le_refl _) v (by rw [hlen] at h1; exact h1)
      rw [List.getD_eq_getElem?_getD, List.getElem?_eq_getElem h1] at this
      simpa using this
theorem longestLine_eq (ha : a.length ≤ 1048576) (hb : b.length ≤ 1048576) (hab : Lines a b) : F_impl_longestLine a b cr = some (bst ((List.range a.length).map (lgV a b cr))) := by
  have hl := hab.1
  have h16 := hl.1.2
  have hpos := hl.1.1
  unfold F_impl_longestLine
  rw [cal_of (crossings_val ha hb hab), if_neg (by simp), mkS_of (by omega) (by unfold lim; omega), ck_of (inI (by omega) (by omega)), Int.toNat_natCast]
  have key := lp_upto (step := fun s => F_impl_longestLine_l1 a cr (tabB a.length (fun x y => decide (x ≠ y) && crossV a b x y), true) s.1 s.2.1 s.2.2)
    (fun k => (tabB a.length (fun v u => decide (a.length ≤ a.idxOf (v : Int) + k) && folV a b cr v u), BitVec.ofNat 32 (bset a.length fun u => decide (a.length ≤ a.idxOf (u : Int) + k)), (a.length : Int) - 1 - (k : Int))) a.length (s := (List.replicate a.length (0 : BitVec 32), 0#32, (a.length : Int) - 1)) ?_ (fun k hk => ?_) (o := .inl (tabB a.length (folV a b cr))) ?_
  · rw [bnd_l key]
    unfold F_impl_longestLine_k2
    have hr : ∀ x ∈ (List.range a.length).map (lgV a b cr), x.length ≤ 1048576 := fun x hx => by
      obtain ⟨u, _, rfl⟩ := List.mem_map.1 hx
      have := lgV_len (a := a) (b := b) (cr := cr) u; omega
    have hbl : (bst ((List.range a.length).map (lgV a b cr))).length ≤ 1048576 := by
      rcases bst_mem ((List.range a.length).map (lgV a b cr)) with e | e
      · rw [e]; simp
      · exact hr _ e
    rw [cal_of (longestLists_eq hl), cal_of (bestList_eq _ (by simp; omega) hr), cal_of (wide_id _ hbl)]
  · refine pair_eq ?_ (pair_eq ?_ (by omega))
    · apply List.ext_getElem
      · rw [List.length_replicate, tabB_len]
      · intro x h5 h6
        rw [tabB_get, List.getElem_replicate]
        rw [tabB_len] at h6
        have hp := pa_lt hl h6
        have : bset a.length (fun u => decide (a.length ≤ a.idxOf (x : Int) + 0) && folV a b cr x u) = 0 := bits_ext fun j => by
          rw [bset_bit, Nat.zero_testBit, decide_eq_false (show ¬ a.length ≤ a.idxOf (x : Int) + 0 by omega)]; simp
        rw [this]; rfl
    · have : bset a.length (fun u => decide (a.length ≤ a.idxOf (u : Int) + 0)) = 0 := bits_ext fun j => by
        rw [bset_bit, Nat.zero_testBit]
        by_cases hj : j < a.length
        · have hp := pa_lt hl hj
          rw [decide_eq_false (show ¬ a.length ≤ a.idxOf (j : Int) + 0 by omega)]; simp
        · simp [hj]
      rw [this]
  · have hi : a.length - 1 - k < a.length := by omega
    obtain ⟨e1, e2, e3⟩ := av_spec hl hi
    have hcast : (a.length : Int) - 1 - (k : Int) = ((a.length - 1 - k : Nat) : Int) := by omega
    simp only [F_impl_longestLine_l1]
    rw [hcast, if_pos (by omega), idx_nat hi, e1]
    generalize av a (a.length - 1 - k) = v at e1 e2 e3
    have hq : ∀ j, j < a.length → (a.length ≤ a.idxOf (j : Int) + k ↔ a.idxOf (v : Int) < a.idxOf (j : Int)) := fun j hj => by have := pa_lt hl hj; omega
    have hlater : BitVec.ofNat 32 (bset a.length fun u => decide (a.length ≤ a.idxOf (u : Int) + k)) ||| BitVec.ofNat 32 (2 ^ v) = BitVec.ofNat 32 (bset a.length fun u => decide (a.length ≤ a.idxOf (u : Int) + (k + 1))) := by
      rw [bv_or]
      congr 1
      apply bits_ext; intro j
      rw [Nat.testBit_or, bset_bit, bset_bit, Nat.testBit_two_pow]
      by_cases hj : j < a.length
      · have h5 := pa_lt hl hj
        have h6 := place_inj hl.2 e2 hj
        rw [decide_eq_true hj, Bool.true_and, Bool.true_and, ← Bool.decide_or, decide_eq_decide, ← h6]
        omega
      · rw [decide_eq_false hj, decide_eq_false (show ¬ v = j by omega)]; rfl
    have hset : ∀ m : Nat, (∀ j, m.testBit j = (decide (j < a.length) && folV a b cr v j)) → (tabB a.length (fun v u => decide (a.length ≤ a.idxOf (v : Int) + k) && folV a b cr v u)).set v (BitVec.ofNat 32 m) = tabB a.length (fun v u => decide (a.length ≤ a.idxOf (v : Int) + (k + 1)) && folV a b cr v u) := fun m hm => by
      have h5 : ∀ x, x < a.length → x ≠ v → (a.length ≤ a.idxOf (x : Int) + (k + 1) ↔ a.length ≤ a.idxOf (x : Int) + k) := fun x hx hne => by
        have h6 := place_inj hl.2 hx e2
        have h7 := pa_lt hl hx
        have h8 : a.idxOf (x : Int) ≠ a.idxOf (v : Int) := fun e => hne (h6.1 e)
        omega
      refine tabB_set e2 (fun j => by rw [hm, decide_eq_true (show a.length ≤ a.idxOf (v : Int) + (k + 1) by omega), Bool.true_and]) (fun x hx hne y => ?_)
      simp only [h5 x hx hne]
    have hlt : bset a.length (fun u => decide (a.length ≤ a.idxOf (u : Int) + k)) < 2 ^ 32 := Nat.lt_of_lt_of_le (bset_lt _ _) (Nat.pow_le_pow_right (by decide) (by omega))
    have hnx : ((a.length - 1 - k : Nat) : Int) - 1 = (a.length : Int) - 1 - ((k + 1 : Nat) : Int) := by omega
    by_cases hc : cr = true
    · rw [if_pos hc, idx_tabB e2, idx_tabB e2, cal_of (one_eq (by omega)), ck_of (inI (by omega) (by omega)), Int.toNat_natCast, bv_and, hlater, hset _ (fun j => ?_), hnx]
      rw [Nat.testBit_and, bset_bit, bset_bit]
      unfold folV
      by_cases hj : j < a.length
      · have h5 := hq j hj
        rw [decide_eq_true hj, hc]
        by_cases h6 : a.idxOf (v : Int) < a.idxOf (j : Int)
        · have hne : v ≠ j := fun e => by subst e; omega
          rw [decide_eq_true (h5.2 h6), decide_eq_true h6, decide_eq_true hne]; simp
        · rw [decide_eq_false (fun h => h6 (h5.1 h)), decide_eq_false h6]; simp
      · rw [decide_eq_false hj]; rfl
    · rw [if_neg hc, idx_tabB e2, idx_tabB e2, cal_of (one_eq (by omega)), ck_of (inI (by omega) (by omega)), Int.toNat_natCast, bv_andn hlt, hlater, hset _ (fun j => ?_), hnx]
      rw [sdiff_bit, bset_bit, bset_bit]
      unfold folV
      by_cases hj : j < a.length
      · have h5 := hq j hj
        rw [decide_eq_true hj, show cr = false by simpa using hc]
        by_cases h6 : a.idxOf (v : Int) < a.idxOf (j : Int)
        · have hne : v ≠ j := fun e => by subst e; omega
          rw [decide_eq_true (h5.2 h6), decide_eq_true h6, decide_eq_true hne]; simp
        · rw [decide_eq_false (fun h => h6 (h5.1 h)), decide_eq_false h6]; simp
      · rw [decide_eq_false hj]; rfl
  · simp only [F_impl_longestLine_l1]
    rw [if_neg (by omega)]
    congr 3
    refine tabB_congr fun x y hx hy => ?_
    rw [decide_eq_true (show a.length ≤ a.idxOf (x : Int) + a.length by omega), Bool.true_and]
end
end Go.Proofs.YtbcjeljppgojgaaDoor

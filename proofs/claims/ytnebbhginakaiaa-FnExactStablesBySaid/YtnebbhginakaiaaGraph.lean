/- Graphs by their rows of neighbours: what the checks of spec and impl say. -/
import Derived.Test.YtnebbhginakaiaaLawSz
import Derived.Test.YtnebbhginakaiaaLawCopy
import Derived.Test.YtnebbhginakaiaaLawIn
namespace Go.Proofs.Ytnebbhginakaiaa
theorem lp_for {O : Type} {step : Int → Option (Int ⊕ O)} (n : Nat) (p : Nat → Prop) (q : Prop) [Decidable q] {oT oF : O} (hq : q ↔ ∀ k, k < n → p k)
    (h1 : ∀ k, k < n → p k → step (k : Int) = some (.inl ((k : Int) + 1))) (h2 : ∀ k, k < n → ¬ p k → step (k : Int) = some (.inr oF)) (he : step (n : Int) = some (.inr oT)) :
    lp step 0 = some (if q then oT else oF) := by
  have := lp_allB (step := step) (fun k => (k : Int)) n p (decide q) (g := fun t => if t then oT else oF) (by simpa using hq) (fun k hk hp => by rw [h1 k hk hp]; rfl) h2 he
  simpa using this
def Rises (s : List Int) (n : Int) : Prop := ∀ (k : Nat) (h : k < s.length), 0 ≤ s[k] ∧ s[k] ≤ n - 1 ∧ (0 < k → s[k - 1] < s[k])
theorem Rises.ge {s : List Int} {n : Int} (h : Rises s n) : ∀ (k : Nat) (hk : k < s.length), (k : Int) ≤ s[k]
  | 0, hk => (h 0 hk).1
  | k + 1, hk => by
    have h1 := Rises.ge h k (by omega)
    have h2 := (h (k + 1) hk).2.2 (by omega)
    simp only [Nat.add_sub_cancel] at h2
    omega
theorem Rises.len {s : List Int} {n : Int} (h : Rises s n) (h0 : 0 ≤ n) : (s.length : Int) ≤ n := by
  rcases Nat.eq_zero_or_pos s.length with e | e
  · omega
  · have h1 := h.ge (s.length - 1) (by omega)
    have h2 := (h (s.length - 1) (by omega)).2.1
    omega
theorem Rises.mem {s : List Int} {n x : Int} (h : Rises s n) (hx : x ∈ s) : 0 ≤ x ∧ x < n := by
  obtain ⟨k, hk, rfl⟩ := List.getElem_of_mem hx
  have := h k hk
  omega
open Classical in
theorem increasing_eq (s : List Int) (n : Int) (hs : s.length ≤ 1099511627776) (h0 : 0 ≤ n) (h1 : n ≤ 1099511627776) : F_impl_increasing s n = some (decide (Rises s n)) := by
  unfold F_impl_increasing
  have key := lp_for (step := fun i => F_impl_increasing_l1 s n i) s.length (fun k => ∀ h : k < s.length, 0 ≤ s[k] ∧ s[k] ≤ n - 1 ∧ (0 < k → s[k - 1] < s[k])) (Rises s n) (oT := .inl ()) (oF := .inr false)
    ⟨fun h k _ => h k, fun h k hk => h k hk hk⟩ (fun k hk hp => ?_) (fun k hk hp => ?_) ?_
  · rw [key]; by_cases h : Rises s n <;> simp [h, F_impl_increasing_k2, bnd]
  · have hp := hp hk
    simp only [F_impl_increasing_l1]
    rw [if_pos (by omega), idx_nat hk, ck_of (inI (by omega) (by omega)), cal_of (inRange_eq _ _ _), if_neg (by simp; omega)]
    by_cases h : 0 < k
    · rw [if_pos (by omega), ck_of (inI (by omega) (by omega)), show (k : Int) - 1 = ((k - 1 : Nat) : Int) by omega, idx_nat (by omega), if_neg (by have := hp.2.2 h; omega), ck_of (inI (by omega) (by omega))]
    · rw [if_neg (by omega), ck_of (inI (by omega) (by omega))]
  · have hp : ¬ (0 ≤ s[k] ∧ s[k] ≤ n - 1 ∧ (0 < k → s[k - 1] < s[k])) := fun h => hp fun _ => h
    simp only [F_impl_increasing_l1]
    rw [if_pos (by omega), idx_nat hk, ck_of (inI (by omega) (by omega)), cal_of (inRange_eq _ _ _)]
    by_cases h : 0 ≤ s[k] ∧ s[k] ≤ n - 1
    · have h2 : 0 < k ∧ s[k] ≤ s[k - 1] := by
        by_cases h3 : 0 < k
        · refine ⟨h3, ?_⟩
          by_cases h4 : s[k - 1] < s[k]
          · exact absurd ⟨h.1, h.2, fun _ => h4⟩ hp
          · omega
        · exact absurd ⟨h.1, h.2, fun h4 => absurd h4 h3⟩ hp
      rw [if_neg (by simp; omega), if_pos (by omega), ck_of (inI (by omega) (by omega)), show (k : Int) - 1 = ((k - 1 : Nat) : Int) by omega, idx_nat (by omega), if_pos h2.2]
    · rw [if_pos (by simpa using h)]
  · simp only [F_impl_increasing_l1]; rw [if_neg (by omega)]
open Classical in
theorem l1Set_eq (s : List Int) (n : Int) (hs : s.length ≤ 1099511627776) (h0 : 0 ≤ n) (h1 : n ≤ 1099511627776) : F_spec_l1Set s n = some (decide (Rises s n)) := by
  unfold F_spec_l1Set
  by_cases hl : n < (s.length : Int)
  · rw [if_pos hl, decide_eq_false]
    intro h; have := h.len h0; omega
  rw [if_neg hl]
  have key := lp_for (step := fun i => F_spec_l1Set_l1 s n i) s.length (fun k => ∀ h : k < s.length, 0 ≤ s[k] ∧ s[k] ≤ n - 1 ∧ (0 < k → s[k - 1] < s[k])) (Rises s n) (oT := .inl ()) (oF := .inr false)
    ⟨fun h k _ => h k, fun h k hk => h k hk hk⟩ (fun k hk hp => ?_) (fun k hk hp => ?_) ?_
  · rw [key]; by_cases h : Rises s n <;> simp [h, F_spec_l1Set_k2, bnd]
  · have hp := hp hk
    simp only [F_spec_l1Set_l1]
    rw [if_pos (by omega), idx_nat hk, ck_of (inI (by omega) (by omega)), cal_of (l1In_eq _ _ _), if_neg (by simp; omega)]
    by_cases h : 0 < k
    · rw [if_pos (by omega), idx_nat hk, ck_of (inI (by omega) (by omega)), show (k : Int) - 1 = ((k - 1 : Nat) : Int) by omega, idx_nat (by omega), if_neg (by have := hp.2.2 h; omega), ck_of (inI (by omega) (by omega))]
    · rw [if_neg (by omega), ck_of (inI (by omega) (by omega))]
  · have hp : ¬ (0 ≤ s[k] ∧ s[k] ≤ n - 1 ∧ (0 < k → s[k - 1] < s[k])) := fun h => hp fun _ => h
    simp only [F_spec_l1Set_l1]
    rw [if_pos (by omega), idx_nat hk, ck_of (inI (by omega) (by omega)), cal_of (l1In_eq _ _ _)]
    by_cases h : 0 ≤ s[k] ∧ s[k] ≤ n - 1
    · have h2 : 0 < k ∧ s[k] ≤ s[k - 1] := by
        by_cases h3 : 0 < k
        · refine ⟨h3, ?_⟩
          by_cases h4 : s[k - 1] < s[k]
          · exact absurd ⟨h.1, h.2, fun _ => h4⟩ hp
          · omega
        · exact absurd ⟨h.1, h.2, fun h4 => absurd h4 h3⟩ hp
      rw [if_neg (by simp; omega), if_pos (by omega), idx_nat hk, ck_of (inI (by omega) (by omega)), show (k : Int) - 1 = ((k - 1 : Nat) : Int) by omega, idx_nat (by omega), if_pos h2.2]
    · rw [if_pos (by simpa using h)]
  · simp only [F_spec_l1Set_l1]; rw [if_neg (by omega)]
theorem l1Has_eq (s : List Int) (x : Int) (hs : s.length ≤ 1099511627776) : F_spec_l1Has s x = some (decide (x ∈ s)) := by
  unfold F_spec_l1Has
  have key := lp_for (step := fun i => F_spec_l1Has_l1 s x i) s.length (fun k => ∀ h : k < s.length, s[k] ≠ x) (¬ x ∈ s) (oT := .inl ()) (oF := .inr true)
    ⟨fun h k _ hk e => h (by rw [← e]; exact List.getElem_mem hk), fun h hm => by obtain ⟨k, hk, e⟩ := List.getElem_of_mem hm; exact h k hk hk e⟩ (fun k hk hp => ?_) (fun k hk hp => ?_) ?_
  · rw [key]; by_cases h : x ∈ s <;> simp [h, F_spec_l1Has_k2, bnd]
  · simp only [F_spec_l1Has_l1]
    rw [if_pos (by omega), idx_nat hk, if_neg (hp hk), ck_of (inI (by omega) (by omega))]
  · have hp : s[k] = x := by
      by_cases e : s[k] = x
      · exact e
      · exact absurd (fun _ => e) hp
    simp only [F_spec_l1Has_l1]
    rw [if_pos (Int.ofNat_lt.2 hk), idx_nat hk, if_pos hp]
  · simp only [F_spec_l1Has_l1]; rw [if_neg (by omega)]
theorem contains_eq (s : List Int) (x : Int) (hs : s.length ≤ 1099511627776) : F_slices_Contains_int64 s x = some (decide (x ∈ s)) := by
  unfold F_slices_Contains_int64 F_slices_Index_int64
  by_cases hx : x ∈ s
  · have hi : s.idxOf x < s.length := List.idxOf_lt_length_iff.2 hx
    have key : lp (fun i => F_slices_Index_int64_l1 s x i) 0 = some (.inr (s.idxOf x : Int)) := by
      refine lp_upto (fun k => (k : Int)) (s.idxOf x) (by simp) (fun k hk => ?_) ?_
      · simp only [F_slices_Index_int64_l1]
        have hk' : k < s.length := by omega
        have := ne_of_lt_idxOf hk hk'
        rw [if_pos (by omega), idx_nat hk', if_neg (Ne.symm this), ck_of (inI (by omega) (by omega))]; rfl
      · simp only [F_slices_Index_int64_l1]
        rw [if_pos (by omega), idx_nat hi, if_pos (by simp)]
    rw [bnd_r key, cal_some_eq]; simp [hx]
  · have key : lp (fun i => F_slices_Index_int64_l1 s x i) 0 = some (.inl ()) := by
      refine lp_upto (fun k => (k : Int)) s.length (by simp) (fun k hk => ?_) ?_
      · simp only [F_slices_Index_int64_l1]
        rw [if_pos (by omega), idx_nat hk, if_neg (fun e => hx (by rw [e]; exact List.getElem_mem hk)), ck_of (inI (by omega) (by omega))]; rfl
      · simp only [F_slices_Index_int64_l1]; rw [if_neg (by omega)]
    rw [bnd_l key]; simp [F_slices_Index_int64_k2, hx]
structure GOk (g : List (List Int)) : Prop where
  n1 : 1 ≤ g.length
  n16 : g.length ≤ 16
  rows : ∀ (v : Nat) (h : v < g.length), Rises g[v] g.length ∧ (v : Int) ∉ g[v]
  sym : ∀ (v : Nat) (h : v < g.length), ∀ w ∈ g[v], ∀ (hw : w.toNat < g.length), (v : Int) ∈ g[w.toNat]
open Classical in
theorem bnd_if {A : Type} {q : Prop} [Decidable q] {x : Unit} {y : A} {k : Unit → Option A} : bnd (some (if q then .inl x else .inr y)) k = if q then k x else some y := by split <;> rfl
open Classical in
theorem specGraph_inner (g : List (List Int)) (hl : ∀ x ∈ g, x.length ≤ 1048576) (hr : ∀ (v : Nat) (h : v < g.length), Rises g[v] g.length ∧ (v : Int) ∉ g[v]) (k : Nat) (hk : k < g.length) :
    lp (fun s => F_spec_GraphOk_l4 g (k : Int) s) 0 = some (if ∀ w ∈ g[k], ∀ (hw : w.toNat < g.length), (k : Int) ∈ g[w.toNat] then .inl () else .inr (.inr (.inr false))) := by
  have hlk := hl _ (List.getElem_mem hk)
  refine lp_for g[k].length (fun j => ∀ (hj : j < g[k].length) (hw : (g[k][j]).toNat < g.length), (k : Int) ∈ g[(g[k][j]).toNat]) _ ⟨fun h j _ hj hw => h _ (List.getElem_mem hj) hw, fun h w hw => ?_⟩ (fun j hj hp => ?_) (fun j hj hp => ?_) ?_
  · obtain ⟨j, hj, rfl⟩ := List.getElem_of_mem hw
    exact h j hj hj
  · have hm := (hr k hk).1.mem (List.getElem_mem hj)
    obtain ⟨m, hm2⟩ := Int.eq_ofNat_of_zero_le hm.1
    have hmg : m < g.length := by omega
    have hp := hp hj (by omega)
    have hl2 := hl _ (List.getElem_mem hmg)
    simp only [F_spec_GraphOk_l4]
    rw [idx_nat hk, if_pos (by omega), idx_nat hk, idx_nat hj, hm2, idx_nat hmg, cal_of (l1Has_eq _ _ (by omega))]
    simp only [hm2, Int.toNat_natCast] at hp
    rw [if_neg (by simp [hp]), ck_of (inI (by omega) (by omega))]
  · have hm := (hr k hk).1.mem (List.getElem_mem hj)
    obtain ⟨m, hm2⟩ := Int.eq_ofNat_of_zero_le hm.1
    have hmg : m < g.length := by omega
    have hl2 := hl _ (List.getElem_mem hmg)
    have hp : ¬ (k : Int) ∈ g[m] := fun h => hp fun _ hw => by simp only [hm2, Int.toNat_natCast]; exact h
    simp only [F_spec_GraphOk_l4]
    rw [idx_nat hk, if_pos (by omega), idx_nat hk, idx_nat hj, hm2, idx_nat hmg, cal_of (l1Has_eq _ _ (by omega)), if_pos (by simp [hp])]
  · simp only [F_spec_GraphOk_l4]; rw [idx_nat hk, if_neg (by omega)]
open Classical in
theorem specGraphOk_eq (g : List (List Int)) (hl : ∀ x ∈ g, x.length ≤ 1048576) : F_spec_GraphOk g = some (decide (GOk g)) := by
  unfold F_spec_GraphOk F_spec_l1Size
  rw [cal_some_eq, cal_of (l1In_eq _ _ _)]
  by_cases hn : 1 ≤ g.length ∧ g.length ≤ 16
  case neg =>
    rw [if_pos (by simp; omega), decide_eq_false]
    exact fun h => hn ⟨h.n1, h.n16⟩
  rw [if_neg (by simp; omega)]
  have key := lp_for (step := fun i => F_spec_GraphOk_l1 g (g.length : Int) i) g.length (fun v => ∀ h : v < g.length, Rises g[v] g.length ∧ (v : Int) ∉ g[v]) (∀ (v : Nat) (h : v < g.length), Rises g[v] g.length ∧ (v : Int) ∉ g[v])
    (oT := .inl ()) (oF := .inr false) ⟨fun h k _ => h k, fun h k hk => h k hk hk⟩ (fun k hk hp => ?_) (fun k hk hp => ?_) ?_
  · rw [key, bnd_if]
    by_cases hr : ∀ (v : Nat) (h : v < g.length), Rises g[v] g.length ∧ (v : Int) ∉ g[v]
    case neg =>
      rw [if_neg hr, decide_eq_false]
      exact fun h => hr h.rows
    rw [if_pos hr]
    unfold F_spec_GraphOk_k2
    have key2 := lp_for (step := fun i => F_spec_GraphOk_l3 g (g.length : Int) i) g.length (fun v => ∀ h : v < g.length, ∀ w ∈ g[v], ∀ (hw : w.toNat < g.length), (v : Int) ∈ g[w.toNat])
      (∀ (v : Nat) (h : v < g.length), ∀ w ∈ g[v], ∀ (hw : w.toNat < g.length), (v : Int) ∈ g[w.toNat])
      (oT := .inl ()) (oF := .inr false) ⟨fun h k _ => h k, fun h k hk => h k hk hk⟩ ?_ ?_ ?_
    · rw [key2, bnd_if]
      by_cases hs : ∀ (v : Nat) (h : v < g.length), ∀ w ∈ g[v], ∀ (hw : w.toNat < g.length), (v : Int) ∈ g[w.toNat]
      · rw [if_pos hs, decide_eq_true ⟨hn.1, hn.2, hr, hs⟩]; rfl
      · rw [if_neg hs, decide_eq_false]
        exact fun h => hs h.sym
    · intro k hk hp
      have hp := hp hk
      simp only [F_spec_GraphOk_l3]
      rw [if_pos (by omega), specGraph_inner g hl hr k hk, if_pos hp, bnd_inl_eq]
      unfold F_spec_GraphOk_k5
      rw [ck_of (inI (by omega) (by omega))]
    · intro k hk hp
      have hp : ¬ ∀ w ∈ g[k], ∀ (hw : w.toNat < g.length), (k : Int) ∈ g[w.toNat] := fun h => hp fun _ => h
      simp only [F_spec_GraphOk_l3]
      rw [if_pos (by omega), specGraph_inner g hl hr k hk, if_neg hp, bnd_inr_eq]
    · simp only [F_spec_GraphOk_l3]; rw [if_neg (by omega)]
  · have hp := hp hk
    have hlk := hl _ (List.getElem_mem hk)
    simp only [F_spec_GraphOk_l1]
    rw [if_pos (by omega), idx_nat hk, cal_of (l1Set_eq _ _ (by omega) (by omega) (by omega)), if_neg (by simp [hp.1]), idx_nat hk, cal_of (l1Has_eq _ _ (by omega)), if_neg (by simp [hp.2]), ck_of (inI (by omega) (by omega))]
  · have hp : ¬ (Rises g[k] g.length ∧ (k : Int) ∉ g[k]) := fun h => hp fun _ => h
    have hlk := hl _ (List.getElem_mem hk)
    simp only [F_spec_GraphOk_l1]
    rw [if_pos (by omega), idx_nat hk, cal_of (l1Set_eq _ _ (by omega) (by omega) (by omega))]
    by_cases h : Rises g[k] g.length
    · have h2 : (k : Int) ∈ g[k] := Classical.byContradiction fun h2 => hp ⟨h, h2⟩
      rw [if_neg (by simp [h]), idx_nat hk, cal_of (l1Has_eq _ _ (by omega)), if_pos (by simp [h2])]
    · rw [if_pos (by simp [h])]
  · simp only [F_spec_GraphOk_l1]; rw [if_neg (by omega)]

open Classical in
theorem implGraph_inner (g : List (List Int)) (hl : ∀ x ∈ g, x.length ≤ 1048576) (hr : ∀ (v : Nat) (h : v < g.length), Rises g[v] g.length ∧ (v : Int) ∉ g[v]) (k : Nat) (hk : k < g.length) :
    lp (fun s => F_impl_GraphOk_l4 g (k : Int) g[k] s) 0 = some (if ∀ w ∈ g[k], ∀ (hw : w.toNat < g.length), (k : Int) ∈ g[w.toNat] then .inl () else .inr (.inr (.inr false))) := by
  have hlk := hl _ (List.getElem_mem hk)
  refine lp_for g[k].length (fun j => ∀ (hj : j < g[k].length) (hw : (g[k][j]).toNat < g.length), (k : Int) ∈ g[(g[k][j]).toNat]) _ ⟨fun h j _ hj hw => h _ (List.getElem_mem hj) hw, fun h w hw => ?_⟩ (fun j hj hp => ?_) (fun j hj hp => ?_) ?_
  · obtain ⟨j, hj, rfl⟩ := List.getElem_of_mem hw
    exact h j hj hj
  · have hm := (hr k hk).1.mem (List.getElem_mem hj)
    obtain ⟨m, hm2⟩ := Int.eq_ofNat_of_zero_le hm.1
    have hmg : m < g.length := by omega
    have hp := hp hj (by omega)
    have hl2 := hl _ (List.getElem_mem hmg)
    simp only [F_impl_GraphOk_l4]
    rw [if_pos (by omega), idx_nat hj, hm2, idx_nat hmg, cal_of (contains_eq _ _ (by omega))]
    simp only [hm2, Int.toNat_natCast] at hp
    rw [if_neg (by simp [hp]), ck_of (inI (by omega) (by omega))]
  · have hm := (hr k hk).1.mem (List.getElem_mem hj)
    obtain ⟨m, hm2⟩ := Int.eq_ofNat_of_zero_le hm.1
    have hmg : m < g.length := by omega
    have hl2 := hl _ (List.getElem_mem hmg)
    have hp : ¬ (k : Int) ∈ g[m] := fun h => hp fun _ hw => by simp only [hm2, Int.toNat_natCast]; exact h
    simp only [F_impl_GraphOk_l4]
    rw [if_pos (by omega), idx_nat hj, hm2, idx_nat hmg, cal_of (contains_eq _ _ (by omega)), if_pos (by simp [hp])]
  · simp only [F_impl_GraphOk_l4]; rw [if_neg (by omega)]
open Classical in
theorem implGraphOk_eq (g : List (List Int)) (hg : g.length ≤ 1048576) (hl : ∀ x ∈ g, x.length ≤ 1048576) : F_impl_GraphOk g = some (decide (GOk g)) := by
  unfold F_impl_GraphOk
  by_cases hn : 1 ≤ g.length ∧ g.length ≤ 16
  case neg =>
    rw [decide_eq_false (fun h : GOk g => hn ⟨h.n1, h.n16⟩)]
    by_cases h1 : (g.length : Int) < 1
    · rw [if_pos h1]
    · rw [if_neg h1, if_pos (by omega)]
  rw [if_neg (by omega), if_neg (by omega)]
  have key := lp_for (step := fun i => F_impl_GraphOk_l1 g i) g.length (fun v => ∀ h : v < g.length, Rises g[v] g.length ∧ (v : Int) ∉ g[v]) (∀ (v : Nat) (h : v < g.length), Rises g[v] g.length ∧ (v : Int) ∉ g[v])
    (oT := .inl ()) (oF := .inr false) ⟨fun h k _ => h k, fun h k hk => h k hk hk⟩ (fun k hk hp => ?_) (fun k hk hp => ?_) ?_
  · rw [key, bnd_if]
    by_cases hr : ∀ (v : Nat) (h : v < g.length), Rises g[v] g.length ∧ (v : Int) ∉ g[v]
    case neg =>
      rw [if_neg hr, decide_eq_false]
      exact fun h => hr h.rows
    rw [if_pos hr]
    unfold F_impl_GraphOk_k2
    have key2 := lp_for (step := fun i => F_impl_GraphOk_l3 g i) g.length (fun v => ∀ h : v < g.length, ∀ w ∈ g[v], ∀ (hw : w.toNat < g.length), (v : Int) ∈ g[w.toNat])
      (∀ (v : Nat) (h : v < g.length), ∀ w ∈ g[v], ∀ (hw : w.toNat < g.length), (v : Int) ∈ g[w.toNat])
      (oT := .inl ()) (oF := .inr false) ⟨fun h k _ => h k, fun h k hk => h k hk hk⟩ ?_ ?_ ?_
    · rw [key2, bnd_if]
      by_cases hs : ∀ (v : Nat) (h : v < g.length), ∀ w ∈ g[v], ∀ (hw : w.toNat < g.length), (v : Int) ∈ g[w.toNat]
      · rw [if_pos hs, decide_eq_true ⟨hn.1, hn.2, hr, hs⟩]; rfl
      · rw [if_neg hs, decide_eq_false]
        exact fun h => hs h.sym
    · intro k hk hp
      have hp := hp hk
      simp only [F_impl_GraphOk_l3]
      rw [if_pos (by omega), idx_nat hk, implGraph_inner g hl hr k hk, if_pos hp, bnd_inl_eq]
      unfold F_impl_GraphOk_k5
      rw [ck_of (inI (by omega) (by omega))]
    · intro k hk hp
      have hp : ¬ ∀ w ∈ g[k], ∀ (hw : w.toNat < g.length), (k : Int) ∈ g[w.toNat] := fun h => hp fun _ => h
      simp only [F_impl_GraphOk_l3]
      rw [if_pos (by omega), idx_nat hk, implGraph_inner g hl hr k hk, if_neg hp, bnd_inr_eq]
    · simp only [F_impl_GraphOk_l3]; rw [if_neg (by omega)]
  · have hp := hp hk
    have hlk := hl _ (List.getElem_mem hk)
    simp only [F_impl_GraphOk_l1]
    rw [if_pos (by omega), idx_nat hk, cal_of (increasing_eq _ _ (by omega) (by omega) (by omega)), if_neg (by simp [hp.1]), cal_of (contains_eq _ _ (by omega)), if_neg (by simp [hp.2]), ck_of (inI (by omega) (by omega))]
  · have hp : ¬ (Rises g[k] g.length ∧ (k : Int) ∉ g[k]) := fun h => hp fun _ => h
    have hlk := hl _ (List.getElem_mem hk)
    simp only [F_impl_GraphOk_l1]
    rw [if_pos (by omega), idx_nat hk, cal_of (increasing_eq _ _ (by omega) (by omega) (by omega))]
    by_cases h : Rises g[k] g.length
    · have h2 : (k : Int) ∈ g[k] := Classical.byContradiction fun h2 => hp ⟨h, h2⟩
      rw [if_neg (by simp [h]), cal_of (contains_eq _ _ (by omega)), if_pos (by simp [h2])]
    · rw [if_pos (by simp [h])]
  · simp only [F_impl_GraphOk_l1]; rw [if_neg (by omega)]
end Go.Proofs.Ytnebbhginakaiaa

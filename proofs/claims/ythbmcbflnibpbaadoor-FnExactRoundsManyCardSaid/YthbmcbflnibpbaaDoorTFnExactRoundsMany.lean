/- FnExactRoundsMany: the plain law. -/
import Derived.Test.YthbmcbflnibpbaaDoorHamI
import Derived.Test.YthbmcbflnibpbaaDoorLawGraph
namespace Go.Proofs.YthbmcbflnibpbaaDoor
open Classical in
noncomputable def resRoundsMany (g : List (List Int)) : Int :=
  if GOk g then (if g.length < 3 then 0 else (wayN (nb g) ((nb g).getD 0 0) (sdiff (2 ^ (nb g).length - 1) (2 ^ 0)) 0 : Int) / 2) else -1
theorem last_zero2 {g : List (List Int)} (hg : GOk g) : LastIs (nb g) ((nb g).getD 0 0) true := by
  intro v hv
  have h1 := hg.n1
  have hl := nb_len g
  rw [if_pos rfl, getD_get (show 0 < (nb g).length by omega)]
  exact (nbs_sym hg).sym 0 v (by omega) hv
theorem specRoundsMany_eq (g : List (List Int)) (hgl : g.length ≤ 1048576) (hl : ∀ x ∈ g, x.length ≤ 1048576) : F_spec_RoundsMany g = some (resRoundsMany g) := by
  unfold F_spec_RoundsMany F_spec_l1Size resRoundsMany
  rw [cal_of (specGraphOk_eq g hl)]
  by_cases hg : GOk g
  case neg => rw [if_pos (by simpa using hg), if_neg hg]
  rw [if_neg (by simpa using hg), cal_some_eq, if_pos hg]
  by_cases h3 : g.length < 3
  · rw [if_pos (by omega), if_pos h3]
  have hnl := nb_len g
  have h16 := hg.n16
  have hb : ∀ v (h : v < (nb g).length), (nb g)[v] < 2 ^ (nb g).length := fun v h => by rw [hnl]; exact nb_lt hg h
  have hp := pow16 (show (nb g).length ≤ 16 by omega)
  have hp8 : 2 ^ 3 ≤ 2 ^ (nb g).length := Nat.pow_le_pow_right (by decide) (by omega)
  rw [if_neg (by omega), if_neg h3, cal_of (l25Bits_eq hg), cal_of (l28Table_eq (by omega) hb true (last_zero2 hg)), cal_of (l25All_eq h16), ← hnl, tab28_idx (by omega) (by omega) (by omega), show (0 : Int) = ((0 : Nat) : Int) from rfl, row28_idx (by omega)]
  have hT : T28 (nb g) ((nb g).getD 0 0) (2 ^ (nb g).length - 1) 0 = (wayN (nb g) ((nb g).getD 0 0) (sdiff (2 ^ (nb g).length - 1) (2 ^ 0)) 0 : Int) := by
    unfold T28; rw [if_pos (by rw [full_bit]; simp; omega)]
  rw [hT, grd_of ⟨by omega, by decide⟩]
/-- a table of rows of 16 numbers -/
def tabW (N : Nat) (f : Nat → Nat → Nat) : List (List Int) := (List.range N).map fun t => (List.range 16).map fun v => (f t v : Int)
theorem tabW_len (N : Nat) (f : Nat → Nat → Nat) : (tabW N f).length = N := by simp [tabW]
theorem idx_tabW {β : Type} {N t : Nat} {f : Nat → Nat → Nat} {q : List Int → Option β} (h : t < N) : idx (tabW N f) (t : Int) q = q ((List.range 16).map fun v => (f t v : Int)) := by
  rw [idx_nat (by rw [tabW_len]; exact h)]; simp [tabW]
theorem idx_row16 {β : Type} {v : Nat} {f : Nat → Nat} {q : Int → Option β} (h : v < 16) : idx ((List.range 16).map fun v => (f v : Int)) (v : Int) q = q (f v : Int) := by
  rw [idx_nat (by simp; exact h)]; simp
theorem tabW_congr {N : Nat} {f f' : Nat → Nat → Nat} (h : ∀ t v, t < N → v < 16 → f t v = f' t v) : tabW N f = tabW N f' := by
  unfold tabW
  refine List.map_congr_left fun t ht => List.map_congr_left fun v hv => ?_
  rw [h t v (List.mem_range.1 ht) (List.mem_range.1 hv)]
theorem tabW_set {N t v : Nat} {f f' : Nat → Nat → Nat} {y : Nat} (ht : t < N) (hv : v < 16) (h1 : f' t v = y) (h2 : ∀ t' v', (t' ≠ t ∨ v' ≠ v) → f' t' v' = f t' v') : (tabW N f).set t (((List.range 16).map fun v => (f t v : Int)).set v (y : Int)) = tabW N f' := by
  apply List.ext_getElem
  · rw [List.length_set, tabW_len, tabW_len]
  · intro i h3 h4
    rw [List.getElem_set]
    by_cases e : t = i
    · subst e
      rw [if_pos rfl]
      simp only [tabW, List.getElem_map, List.getElem_range]
      apply List.ext_getElem
      · simp
      · intro j h5 h6
        rw [List.getElem_set]
        simp only [List.getElem_map, List.getElem_range]
        by_cases e2 : v = j
        · subst e2; rw [if_pos rfl, h1]
        · rw [if_neg e2, h2 t j (.inr (Ne.symm e2))]
    · rw [if_neg e]
      simp only [tabW, List.getElem_map, List.getElem_range]
      refine List.map_congr_left fun j _ => ?_
      rw [h2 i j (.inl (Ne.symm e))]
section
variable {a : List Nat}
/-- the ways from 0 through all of t to v -/
def V0 (a : List Nat) (t v : Nat) : Nat := if t = 1 ∧ v = 0 then 1 else if v ≠ 0 ∧ t.testBit v = true ∧ t.testBit 0 = true then wayN a (a.getD 0 0) (sdiff (sdiff t (2 ^ 0)) (2 ^ v)) v else 0
/-- what stands in the table as set s comes up -/
def fT (a : List Nat) (s t v : Nat) : Nat := if t = 1 ∧ v = 0 then 1 else if sdiff t (2 ^ v) < s then V0 a t v else 0
def sumV (a : List Nat) (s : Nat) (pre : List Nat) (u : Nat) : Nat := ((pre.filter fun v => (a.getD v 0).testBit u).map (V0 a s)).sum
/-- as some of s are done -/
def fM (a : List Nat) (s : Nat) (pre : List Nat) (t u : Nat) : Nat := if s.testBit u = false ∧ t = s ||| 2 ^ u then sumV a s pre u else fT a s t u
def fI (a : List Nat) (s : Nat) (pre : List Nat) (v : Nat) (us : List Nat) (t u : Nat) : Nat := if s.testBit u = false ∧ t = s ||| 2 ^ u then sumV a s pre u + (if u ∈ us then V0 a s v else 0) else fT a s t u
theorem V0_small (t v : Nat) (ht : t < 2 ^ 16) : V0 a t v ≤ 20922789888000 := by
  unfold V0
  split
  · decide
  · split
    · exact wayN_small (Nat.lt_of_le_of_lt (Nat.le_trans (sdiff_le _ _) (sdiff_le _ _)) ht)
    · decide
theorem sumV_le {s B : Nat} (hB : ∀ v, V0 a s v ≤ B) (pre : List Nat) (hp : pre.length ≤ 16) (u : Nat) : sumV a s pre u ≤ 16 * B := by
  unfold sumV
  have h1 := sum_le ((pre.filter fun v => (a.getD v 0).testBit u).map (V0 a s)) B (fun x hx => by
    obtain ⟨v, _, rfl⟩ := List.mem_map.1 hx
    exact hB v)
  have h2 := List.length_filter_le (fun v => (a.getD v 0).testBit u) pre
  rw [List.length_map] at h1
  exact Nat.le_trans h1 (Nat.mul_le_mul_right _ (by omega))
theorem sumV_small {s : Nat} (hs : s < 2 ^ 16) (pre : List Nat) (hp : pre.length ≤ 16) (u : Nat) : sumV a s pre u ≤ 334764638208000 := by
  have := sumV_le (fun v => V0_small (a := a) s v hs) pre hp u
  exact this
theorem sumV_snoc (s : Nat) (pre : List Nat) (v u : Nat) : sumV a s (pre ++ [v]) u = sumV a s pre u + (if (a.getD v 0).testBit u = true then V0 a s v else 0) := by
  unfold sumV
  rw [List.filter_append, List.map_append, List.sum_append, List.filter_cons]
  split <;> simp
theorem sdiff_lt_self {t v : Nat} (h : t.testBit v = true) : sdiff t (2 ^ v) < t := by
  rcases Nat.lt_or_ge (sdiff t (2 ^ v)) t with g | g
  · exact g
  · have e : sdiff t (2 ^ v) = t := Nat.le_antisymm (sdiff_le _ _) g
    have := sdiff_bit t (2 ^ v) v
    rw [e, h, Nat.testBit_two_pow] at this
    simp at this
/-- the row of the set that comes up is full -/
theorem fT_own {s : Nat} (hs : s.testBit 0 = true) (v : Nat) : fT a s s v = V0 a s v := by
  unfold fT
  by_cases h1 : s = 1 ∧ v = 0
  · rw [if_pos h1]; unfold V0; rw [if_pos h1]
  rw [if_neg h1]
  by_cases h2 : s.testBit v = true
  · rw [if_pos (sdiff_lt_self h2)]
  · have e : V0 a s v = 0 := by unfold V0; rw [if_neg h1, if_neg (fun h => h2 h.2.1)]
    rw [e]; split <;> rfl
theorem or_ne {s u : Nat} (h : s.testBit u = false) : s ≠ s ||| 2 ^ u := fun e => by
  have : (s ||| 2 ^ u).testBit u = true := by rw [Nat.testBit_or, Nat.testBit_two_pow]; simp
  rw [← e, h] at this; cases this
theorem sdiff_or {s u : Nat} (h : s.testBit u = false) : sdiff (s ||| 2 ^ u) (2 ^ u) = s := by
  apply bits_ext; intro j
  rw [sdiff_bit, Nat.testBit_or, Nat.testBit_two_pow]
  by_cases e : u = j
  · subst e; rw [h]; simp
  · simp [e]
/-- all of s done: what comes in from it is whole -/
theorem sumV_all {n : Nat} (hn : n ≤ 16) (hl : a.length = n) (hsym : ∀ u v, u < n → v < n → (a.getD u 0).testBit v = (a.getD v 0).testBit u) {s u : Nat} (hs : s < 2 ^ n) (h0 : s.testBit 0 = true) (hu : u < n) (hus : s.testBit u = false) : sumV a s (els s) u = V0 a (s ||| 2 ^ u) u := by
  have hs16 : s < 2 ^ 16 := Nat.lt_of_lt_of_le hs (pow16 hn)
  have hu0 : u ≠ 0 := fun e => by rw [e, h0] at hus; cases hus
  have hV : V0 a (s ||| 2 ^ u) u = wayN a (a.getD 0 0) (sdiff s (2 ^ 0)) u := by
    unfold V0
    rw [if_neg (fun h => hu0 h.2), if_pos ⟨hu0, by rw [Nat.testBit_or, Nat.testBit_two_pow]; simp, by rw [Nat.testBit_or, h0]; rfl⟩]
    congr 1
    apply bits_ext; intro j
    rw [sdiff_bit, sdiff_bit, sdiff_bit, Nat.testBit_or, Nat.testBit_two_pow, Nat.testBit_two_pow]
    by_cases e : u = j
    · subst e; rw [hus]; simp
    · simp [e]
  rw [hV]
  by_cases h1 : s = 1
  · subst h1
    rw [show sdiff 1 (2 ^ 0) = 0 by decide, wayN_zero]
    have e1 : els 1 = [0] := by decide
    unfold sumV
    rw [e1, List.filter_cons]
    split
    · simp [V0]
    · simp
  · have hr : sdiff s (2 ^ 0) ≠ 0 := fun e => h1 (by
      apply bits_ext; intro j
      have := sdiff_bit s (2 ^ 0) j
      rw [e, Nat.zero_testBit, Nat.testBit_two_pow] at this
      by_cases hj : j = 0
      · subst hj; rw [h0]; decide
      · have h2 : s.testBit j = false := by
          cases g : s.testBit j with
          | false => rfl
          | true => rw [g] at this; simp [Ne.symm hj] at this
        rw [h2, show (1 : Nat) = 2 ^ 0 from rfl, Nat.testBit_two_pow]; simp [Ne.symm hj])
    have hr16 : sdiff s (2 ^ 0) < 2 ^ 16 := Nat.lt_of_le_of_lt (sdiff_le _ _) hs16
    rw [wayN_step hr hr16]
    -- both as sums over the numbers below 16
    have hsplit : ∀ (l : List Nat), (∀ v ∈ l, v < n) → ((l.filter fun v => (a.getD v 0).testBit u && s.testBit v).map (V0 a s)).sum = ((l.filter fun v => (a.getD u 0 &&& sdiff s (2 ^ 0)).testBit v).map fun v => wayN a (a.getD 0 0) (sdiff (sdiff s (2 ^ 0)) (2 ^ v)) v).sum := by
      intro l
      induction l with
      | nil => intro _; rfl
      | cons v l ih =>
        intro hv
        have hvn := hv v (List.mem_cons_self ..)
        have ih' := ih fun x hx => hv x (List.mem_cons_of_mem _ hx)
        rw [List.filter_cons, List.filter_cons, Nat.testBit_and, sdiff_bit, Nat.testBit_two_pow, hsym u v hu hvn]
        by_cases c1 : (a.getD v 0).testBit u = true
        · by_cases c2 : s.testBit v = true
          · rw [c1, c2]
            by_cases c3 : v = 0
            · subst c3
              have : V0 a s 0 = 0 := by unfold V0; rw [if_neg (fun h => h1 h.1), if_neg (fun h => h.1 rfl)]
              simpa [this] using ih'
            · have : V0 a s v = wayN a (a.getD 0 0) (sdiff (sdiff s (2 ^ 0)) (2 ^ v)) v := by unfold V0; rw [if_neg (fun h => c3 h.2), if_pos ⟨c3, c2, h0⟩]
              simpa [this, Ne.symm c3] using ih'
          · simp only [Bool.not_eq_true] at c2
            rw [c2]; simpa using ih'
        · simp only [Bool.not_eq_true] at c1
          rw [c1]; simpa using ih'
    have e1 : sumV a s (els s) u = (((List.range n).filter fun v => (a.getD v 0).testBit u && s.testBit v).map (V0 a s)).sum := by
      unfold sumV
      rw [els_range hn hs, List.filter_filter]
    have hlt : a.getD u 0 &&& sdiff s (2 ^ 0) < 2 ^ n := by
      rw [Nat.and_comm]; exact and_lt (Nat.lt_of_le_of_lt (sdiff_le _ _) hs)
    rw [e1, hsplit _ (fun v hv => List.mem_range.1 hv), els_range hn hlt]
theorem V0_none {t v : Nat} (h1 : ¬ (t = 1 ∧ v = 0)) (h : t.testBit 0 = false ∨ v = 0 ∨ t.testBit v = false) : V0 a t v = 0 := by
  unfold V0
  rw [if_neg h1, if_neg]
  rintro ⟨g1, g2, g3⟩
  rcases h with h | h | h
  · rw [g3] at h; cases h
  · exact g1 h
  · rw [g2] at h; cases h
theorem or_u0 {s u : Nat} (h0 : s.testBit 0 = true) (hu : s.testBit u = false) : u ≠ 0 := fun e => by rw [e, h0] at hu; cases hu
theorem fM_nil {s : Nat} (h0 : s.testBit 0 = true) (t v : Nat) : fM a s [] t v = fT a s t v := by
  unfold fM
  by_cases h : s.testBit v = false ∧ t = s ||| 2 ^ v
  · obtain ⟨h1, rfl⟩ := h
    have hv := or_u0 h0 h1
    rw [if_pos ⟨h1, rfl⟩]
    unfold fT
    rw [if_neg (fun h => hv h.2), if_neg (by rw [sdiff_or h1]; omega)]; rfl
  · rw [if_neg h]
theorem fM_all {n : Nat} (hn : n ≤ 16) (hl : a.length = n) (hsym : ∀ u v, u < n → v < n → (a.getD u 0).testBit v = (a.getD v 0).testBit u) {s : Nat} (hs : s < 2 ^ n) (h0 : s.testBit 0 = true) (hev : s % 2 = 1) {t : Nat} (ht : t < 2 ^ n) (v : Nat) : fM a s (els s) t v = fT a (s + 2) t v := by
  unfold fM
  by_cases h : s.testBit v = false ∧ t = s ||| 2 ^ v
  · obtain ⟨h1, rfl⟩ := h
    have hv := or_u0 h0 h1
    have hvn : v < n := bit_lt ht (by rw [Nat.testBit_or, Nat.testBit_two_pow]; simp)
    rw [if_pos ⟨h1, rfl⟩, sumV_all hn hl hsym hs h0 hvn h1]
    unfold fT
    rw [if_neg (fun h => hv h.2), if_pos (by rw [sdiff_or h1]; omega)]
  · rw [if_neg h]
    unfold fT
    by_cases h1 : t = 1 ∧ v = 0
    · rw [if_pos h1, if_pos h1]
    rw [if_neg h1, if_neg h1]
    by_cases h2 : sdiff t (2 ^ v) < s
    · rw [if_pos h2, if_pos (by omega)]
    rw [if_neg h2]
    by_cases h3 : sdiff t (2 ^ v) < s + 2
    · rw [if_pos h3]
      refine (V0_none h1 ?_).symm
      by_cases h4 : sdiff t (2 ^ v) = s
      · by_cases h5 : t.testBit v = true
        · exfalso
          refine h ⟨?_, ?_⟩
          · rw [← h4, sdiff_bit, Nat.testBit_two_pow]; simp
          · apply bits_ext; intro j
            rw [Nat.testBit_or, Nat.testBit_two_pow, ← h4, sdiff_bit, Nat.testBit_two_pow]
            by_cases e : v = j
            · subst e; rw [h5]; simp
            · simp [e]
        · exact .inr (.inr (by simpa using h5))
      · have h5 : sdiff t (2 ^ v) = s + 1 := by omega
        have h6 : (sdiff t (2 ^ v)).testBit 0 = false := by rw [h5, Nat.testBit_zero]; simp; omega
        rw [sdiff_bit, Nat.testBit_two_pow] at h6
        by_cases h7 : v = 0
        · exact .inr (.inl h7)
        · left
          cases e : t.testBit 0 with
          | false => rfl
          | true => rw [e] at h6; simp [h7] at h6
    · rw [if_neg h3]
theorem fM_own {s : Nat} (h0 : s.testBit 0 = true) (pre : List Nat) (v : Nat) : fM a s pre s v = V0 a s v := by
  unfold fM
  rw [if_neg (fun h => or_ne h.1 h.2), fT_own h0]
theorem fI_own {s : Nat} (h0 : s.testBit 0 = true) (pre : List Nat) (w : Nat) (us : List Nat) (v : Nat) : fI a s pre w us s v = V0 a s v := by
  unfold fI
  rw [if_neg (fun h => or_ne h.1 h.2), fT_own h0]
theorem fI_nil (s : Nat) (pre : List Nat) (w t v : Nat) : fI a s pre w [] t v = fM a s pre t v := by
  unfold fI fM; simp
theorem fI_all {s : Nat} (pre : List Nat) (w t v : Nat) (hw : a.getD w 0 < 2 ^ 16) : fI a s pre w (els (sdiff (a.getD w 0) s)) t v = fM a s (pre ++ [w]) t v := by
  unfold fI fM
  by_cases h : s.testBit v = false ∧ t = s ||| 2 ^ v
  · rw [if_pos h, if_pos h, sumV_snoc]
    congr 1
    have : v ∈ els (sdiff (a.getD w 0) s) ↔ (a.getD w 0).testBit v = true := by
      rw [mem_els (sdiff_lt hw), sdiff_bit, h.1]; simp
    by_cases e : (a.getD w 0).testBit v = true
    · rw [if_pos (this.2 e), if_pos e]
    · rw [if_neg (fun h => e (this.1 h)), if_neg e]
  · rw [if_neg h, if_neg h]
theorem fM_zero {s w : Nat} (hz : V0 a s w = 0) (pre : List Nat) (t v : Nat) : fM a s (pre ++ [w]) t v = fM a s pre t v := by
  unfold fM
  rw [sumV_snoc, hz]
  simp
/-- what set s gives to the greater ones -/
theorem inner3 {n : Nat} (hn : n ≤ 16) (hl : a.length = n) (hb : ∀ v, a.getD v 0 < 2 ^ n) {s : Nat} (hs : s < 2 ^ n) (h0 : s.testBit 0 = true) (pre : List Nat) (hp : pre.length ≤ 16) {w : Nat} (hw : s.testBit w = true) :
    lp (fun q => F_impl_RoundsMany_l3 (BitVec.ofNat 32 s) (w : Int) (ints (els (sdiff (a.getD w 0) s))) q.1 q.2) (tabW (2 ^ n) (fM a s pre), 0) = some (.inl (tabW (2 ^ n) (fM a s (pre ++ [w])))) := by
  have hpn : 2 ^ n ≤ 2 ^ 16 := pow16 hn
  have hwn : w < n := bit_lt hs hw
  have hw16 : a.getD w 0 < 2 ^ 16 := Nat.lt_of_lt_of_le (hb w) hpn
  have hsd : sdiff (a.getD w 0) s < 2 ^ n := sdiff_lt (hb w)
  have hmem : ∀ u ∈ els (sdiff (a.getD w 0) s), s.testBit u = false ∧ u < n := fun u hu => by
    have h1 := els_bit hu
    have h2 := bit_lt hsd h1
    rw [sdiff_bit, Bool.and_eq_true] at h1
    exact ⟨by simpa using h1.2, h2⟩
  have hnd := els_nodup (sdiff (a.getD w 0) s)
  have hlen := els_len_le (sdiff (a.getD w 0) s)
  have hfin : tabW (2 ^ n) (fM a s (pre ++ [w])) = tabW (2 ^ n) (fI a s pre w (els (sdiff (a.getD w 0) s))) := tabW_congr fun t v _ _ => (fI_all pre w t v hw16).symm
  rw [hfin, show tabW (2 ^ n) (fM a s pre) = tabW (2 ^ n) (fI a s pre w []) from tabW_congr fun t v _ _ => (fI_nil s pre w t v).symm]
  generalize els (sdiff (a.getD w 0) s) = us at hmem hnd hlen
  refine lp_upto (fun m => (tabW (2 ^ n) (fI a s pre w (us.take m)), (m : Int))) us.length (by simp) (fun m hm => ?_) ?_
  · obtain ⟨hus, hun⟩ := hmem _ (List.getElem_mem hm)
    have hnm : us[m] ∉ us.take m := by
      intro h
      obtain ⟨j, hj, e⟩ := List.mem_take_iff_getElem.1 h
      exact List.pairwise_iff_getElem.1 hnd j m (by omega) hm (by omega) e
    have ht : s ||| 2 ^ us[m] < 2 ^ n := or_lt hs (Nat.pow_lt_pow_right (by decide) hun)
    have hf : fI a s pre w (us.take m) (s ||| 2 ^ us[m]) us[m] = sumV a s pre us[m] := by
      unfold fI; rw [if_pos ⟨hus, rfl⟩, if_neg hnm, Nat.add_zero]
    have b1 := sumV_small (a := a) (s := s) (by omega) pre hp us[m]
    have b2 := V0_small (a := a) s w (by omega)
    simp only [F_impl_RoundsMany_l3]
    rw [if_pos (by rw [ints_len]; omega), idx_ints hm, cal_of (one_eq (by omega)), bv_or, bv_toNat (by omega), bv_toNat (by omega), idx_tabW ht, idx_row16 (by omega), hf, idx_tabW hs, idx_row16 (by omega), fI_own h0, ck_of (inI (by omega) (by omega)), idx_tabW ht, idx_row16 (by omega), ck_of (inI (by omega) (by omega)), Int.toNat_natCast, Int.toNat_natCast, ← Int.natCast_add, take_succ_of hm]
    refine inl_eq (pair_eq ?_ rfl)
    refine tabW_set ht (by omega) ?_ fun t' v' hne => ?_
    · unfold fI
      rw [if_pos ⟨hus, rfl⟩, if_pos (List.mem_append_right _ (List.mem_singleton.2 rfl))]
    · unfold fI
      by_cases h : s.testBit v' = false ∧ t' = s ||| 2 ^ v'
      · rw [if_pos h, if_pos h]
        have : v' ≠ us[m] := fun e => by
          rcases hne with g | g
          · exact g (by rw [h.2, e])
          · exact g e
        have hiff : v' ∈ us.take m ++ [us[m]] ↔ v' ∈ us.take m := by
          rw [List.mem_append, List.mem_singleton]
          exact ⟨fun h => h.elim id (fun e => absurd e this), .inl⟩
        simp only [hiff]
      · rw [if_neg h, if_neg h]
  · simp only [F_impl_RoundsMany_l3]
    rw [if_neg (by rw [ints_len]; omega), List.take_length]
theorem inner2 {n : Nat} (hn : n ≤ 16) (hl : a.length = n) (hb : ∀ v, a.getD v 0 < 2 ^ n) {s : Nat} (hs : s < 2 ^ n) (h0 : s.testBit 0 = true) :
    lp (fun q => F_impl_RoundsMany_l2 (bvs a) (BitVec.ofNat 32 s) (ints (els s)) q.1 q.2) (tabW (2 ^ n) (fT a s), 0) = some (.inl (tabW (2 ^ n) (fM a s (els s)))) := by
  have hpn : 2 ^ n ≤ 2 ^ 16 := pow16 hn
  have hlen := els_len_le s
  have hmem : ∀ u ∈ els s, s.testBit u = true := fun u hu => els_bit hu
  rw [show tabW (2 ^ n) (fT a s) = tabW (2 ^ n) (fM a s []) from tabW_congr fun t v _ _ => (fM_nil h0 t v).symm]
  generalize els s = us at hlen hmem
  refine lp_upto (fun m => (tabW (2 ^ n) (fM a s (us.take m)), (m : Int))) us.length (by simp) (fun m hm => ?_) ?_
  · have hw := hmem _ (List.getElem_mem hm)
    have hwn : us[m] < n := bit_lt hs hw
    have hwa : us[m] < a.length := by omega
    simp only [F_impl_RoundsMany_l2]
    rw [if_pos (by rw [ints_len]; omega), idx_ints hm, bv_toNat (by omega), idx_tabW hs, idx_row16 (by omega), fM_own h0, take_succ_of hm]
    by_cases hz : V0 a s us[m] = 0
    · rw [if_pos (by omega), ck_of (inI (by omega) (by omega)), show tabW (2 ^ n) (fM a s (us.take m ++ [us[m]])) = tabW (2 ^ n) (fM a s (us.take m)) from tabW_congr fun t v _ _ => fM_zero hz _ t v]; rfl
    · have hbw := hb us[m]
      have h3 := inner3 hn hl hb hs h0 (us.take m) (by rw [List.length_take]; omega) hw
      rw [getD_get hwa] at hbw h3
      rw [if_neg (by omega), idx_bvs hwa, bv_andn (by omega), cal_of (list_eq (sdiff_lt (by omega))), bnd_l h3]
      unfold F_impl_RoundsMany_k4
      rw [ck_of (inI (by omega) (by omega))]; rfl
  · simp only [F_impl_RoundsMany_l2]
    rw [if_neg (by rw [ints_len]; omega), List.take_length]
theorem tabW_init {n : Nat} (h1 : 1 ≤ n) : (List.replicate (2 ^ n) (List.replicate 16 (0 : Int))).set 1 ((List.replicate 16 (0 : Int)).set 0 1) = tabW (2 ^ n) (fT a 1) := by
  have h2 : 2 ^ 1 ≤ 2 ^ n := Nat.pow_le_pow_right (by decide) h1
  have e0 : List.replicate (2 ^ n) (List.replicate 16 (0 : Int)) = tabW (2 ^ n) (fun _ _ => 0) := by
    apply List.ext_getElem
    · rw [List.length_replicate, tabW_len]
    · intro i h3 h4
      simp only [tabW, List.getElem_replicate, List.getElem_map]
      rfl
  rw [e0]
  have := tabW_set (N := 2 ^ n) (t := 1) (v := 0) (f := fun _ _ => 0) (f' := fun t v => if t = 1 ∧ v = 0 then 1 else 0) (y := 1) (by omega) (by decide) (by simp) (fun t' v' h => by
    rw [if_neg]
    rintro ⟨e1, e2⟩
    rcases h with h | h
    · exact h e1
    · exact h e2)
  refine Eq.trans ?_ (this.trans (tabW_congr fun t v _ _ => ?_))
  · rfl
  · unfold fT
    by_cases h : t = 1 ∧ v = 0
    · rw [if_pos h, if_pos h]
    · rw [if_neg h, if_neg h]
      split
      · rename_i hs
        have hz : sdiff t (2 ^ v) = 0 := by omega
        refine (V0_none h ?_).symm
        by_cases hv : v = 0
        · exact .inr (.inl hv)
        · left
          have := sdiff_bit t (2 ^ v) 0
          rw [hz, Nat.zero_testBit, Nat.testBit_two_pow] at this
          cases e : t.testBit 0 with
          | false => rfl
          | true => rw [e] at this; simp [hv] at this
      · rfl
end
theorem implRoundsMany_eq (g : List (List Int)) (hgl : g.length ≤ 1048576) (hl : ∀ x ∈ g, x.length ≤ 1048576) : F_impl_RoundsMany g = some (resRoundsMany g) := by
  unfold F_impl_RoundsMany resRoundsMany
  rw [cal_of (implGraphOk_eq g hgl hl)]
  by_cases hg : GOk g
  case neg => rw [if_pos (by simpa using hg), if_neg hg]
  rw [if_neg (by simpa using hg), if_pos hg, cal_of (netsOf_eq hg), bvs_len]
  have hnl := nb_len g
  have h16 := hg.n16
  have h1 := hg.n1
  by_cases h3 : g.length < 3
  · rw [if_pos (by omega), if_pos h3]
  rw [if_neg (by omega), if_neg h3]
  have hb : ∀ v, (nb g).getD v 0 < 2 ^ g.length := fun v => by
    rcases Nat.lt_or_ge v (nb g).length with h | h
    · rw [getD_get h]; exact nb_lt hg h
    · simp [h]; exact Nat.two_pow_pos _
  have hsym : ∀ u v, u < g.length → v < g.length → ((nb g).getD u 0).testBit v = ((nb g).getD v 0).testBit u := fun u v hu hv => by
    rw [getD_get (show u < (nb g).length by omega), getD_get (show v < (nb g).length by omega)]
    exact (nbs_sym hg).sym u v (by omega) (by omega)
  have hp := pow16 h16
  have hp8 : 2 ^ 3 ≤ 2 ^ g.length := Nat.pow_le_pow_right (by decide) (by omega)
  obtain ⟨K, hK⟩ : ∃ K, 2 ^ g.length = 2 * K + 2 := by
    obtain ⟨m, hm⟩ : ∃ m, g.length = m + 1 := ⟨g.length - 1, by omega⟩
    have : 0 < 2 ^ m := Nat.two_pow_pos _
    exact ⟨2 ^ m - 1, by rw [hm, Nat.pow_succ]; omega⟩
  have hN : BitVec.ofNat 32 (2 ^ g.length - 1) + 1#32 = BitVec.ofNat 32 (2 ^ g.length) := by rw [bv_succ, Nat.sub_add_cancel (by omega)]
  rw [cal_of (all_eq (by omega)), hnl, hN, bv_toNat (by omega), mkS_of (by omega) (by unfold lim; omega), Int.toNat_natCast, idx_of (x := List.replicate 16 (0 : Int)) (by decide) (by rw [List.getElem?_replicate, if_pos (show (1 : Int).toNat < 2 ^ g.length from by show 1 < _; omega)]), idx_of (x := (0 : Int)) (by decide) (by rfl)]
  rw [show ((1 : Int).toNat) = 1 from rfl, show ((0 : Int).toNat) = 0 from rfl, tabW_init (a := nb g) h1]
  have hodd : ∀ k, (2 * k + 1).testBit 0 = true := fun k => by rw [Nat.testBit_zero]; simp
  have key := lp_upto (step := fun q => F_impl_RoundsMany_l1 (bvs (nb g)) q.1 q.2) (fun k => (tabW (2 ^ g.length) (fT (nb g) (2 * k + 1)), BitVec.ofNat 32 (2 * k + 1))) K (s := (tabW (2 ^ g.length) (fT (nb g) 1), 1#32)) rfl (fun k hk => ?_) (o := .inl (tabW (2 ^ g.length) (fT (nb g) (2 ^ g.length - 1)))) ?_
  · rw [bnd_l key]
    unfold F_impl_RoundsMany_k6
    have h0l : 0 < (nb g).length := by omega
    have ha0 : (nb g).getD 0 0 < 2 ^ g.length := hb 0
    rw [show (0 : Int) = ((0 : Nat) : Int) from rfl, idx_bvs h0l, ← getD_get h0l, cal_of (list_eq (show (nb g).getD 0 0 < 2 ^ 16 by omega))]
    have hfull : (2 ^ g.length - 1).testBit 0 = true := by rw [Nat.testBit_two_pow_sub_one]; simp; omega
    have hz : ((nb g).getD 0 0).testBit 0 = false := by
      have e0 : (nb g)[0] = mk g[0] := by simp [nb]
      rw [getD_get h0l, e0, mk_mem (fun x hx => (hg.row_mem (by omega) hx).1), decide_eq_false_iff_not]
      exact (hg.rows 0 (by omega)).2
    have hV : ∀ v ∈ els ((nb g).getD 0 0), V0 (nb g) (2 ^ g.length - 1) v = wayN (nb g) ((nb g).getD 0 0) (sdiff (sdiff (2 ^ g.length - 1) (2 ^ 0)) (2 ^ v)) v := fun v hv => by
      have h5 := els_bit hv
      have h6 : v ≠ 0 := fun e => by rw [e, hz] at h5; cases h5
      have h7 := bit_lt ha0 h5
      unfold V0
      rw [if_neg (fun h => h6 h.2), if_pos ⟨h6, by rw [Nat.testBit_two_pow_sub_one]; simp [h7], hfull⟩]
    have hway : wayN (nb g) ((nb g).getD 0 0) (sdiff (2 ^ g.length - 1) (2 ^ 0)) 0 = ((els ((nb g).getD 0 0)).map (V0 (nb g) (2 ^ g.length - 1))).sum := by
      have hr : sdiff (2 ^ g.length - 1) (2 ^ 0) ≠ 0 := fun e => by
        have := sdiff_bit (2 ^ g.length - 1) (2 ^ 0) 1
        rw [e, Nat.zero_testBit, Nat.testBit_two_pow_sub_one, Nat.testBit_two_pow] at this
        simp at this; omega
      rw [wayN_step hr (Nat.lt_of_le_of_lt (sdiff_le _ _) (by omega))]
      have e1 : (nb g).getD 0 0 &&& sdiff (2 ^ g.length - 1) (2 ^ 0) = (nb g).getD 0 0 := by
        apply bits_ext; intro j
        rw [Nat.testBit_and, sdiff_bit, Nat.testBit_two_pow_sub_one, Nat.testBit_two_pow]
        by_cases hj : j = 0
        · subst hj; rw [hz]; rfl
        · cases e : ((nb g).getD 0 0).testBit j with
          | false => rfl
          | true => have := bit_lt ha0 e; simp [this, Ne.symm hj]
      rw [e1]
      congr 1
      exact List.map_congr_left fun v hv => (hV v hv).symm
    have hsm : ∀ m, (((els ((nb g).getD 0 0)).take m).map (V0 (nb g) (2 ^ g.length - 1))).sum ≤ 334764638208000 := fun m => by
      have h5 := sum_le (((els ((nb g).getD 0 0)).take m).map (V0 (nb g) (2 ^ g.length - 1))) 20922789888000 (fun x hx => by
        obtain ⟨v, _, rfl⟩ := List.mem_map.1 hx
        exact V0_small _ v (by omega))
      rw [List.length_map, List.length_take] at h5
      have h6 := els_len_le ((nb g).getD 0 0)
      exact Nat.le_trans h5 (Nat.le_trans (Nat.mul_le_mul_right 20922789888000 (show min m (els ((nb g).getD 0 0)).length ≤ 16 by omega)) (Nat.le_refl _))
    have hlt : ∀ v ∈ els ((nb g).getD 0 0), v < g.length := fun v hv => bit_lt ha0 (els_bit hv)
    rw [hway]
    have h16l := els_len_le ((nb g).getD 0 0)
    generalize els ((nb g).getD 0 0) = us at hsm hlt h16l ⊢
    have key7 := lp_upto (step := fun q => F_impl_RoundsMany_l7 (bvs (nb g)) (tabW (2 ^ g.length) (fT (nb g) (2 ^ g.length - 1))) (ints us) q.1 q.2) (fun m => ((((us.take m).map (V0 (nb g) (2 ^ g.length - 1))).sum : Int), (m : Int))) us.length (s := (((0 : Nat) : Int), ((0 : Nat) : Int))) (by simp) (fun m hm => ?_) (o := .inl ((us.map (V0 (nb g) (2 ^ g.length - 1))).sum : Int)) ?_
    · rw [bnd_l key7]
      unfold F_impl_RoundsMany_k8
      rw [grd_of ⟨by omega, by decide⟩]
    · have hv := hlt _ (List.getElem_mem hm)
      have b1 := hsm m
      have b2 := V0_small (a := nb g) (2 ^ g.length - 1) us[m] (by omega)
      simp only [F_impl_RoundsMany_l7]
      rw [if_pos (by rw [ints_len]; omega), idx_ints hm, cal_of (all_eq (by omega)), hnl, bv_toNat (by omega), idx_tabW (by omega), idx_row16 (by omega), fT_own hfull, ck_of (inI (by omega) (by omega)), ck_of (inI (by omega) (by omega)), take_succ_of hm, List.map_append, List.sum_append]
      refine inl_eq (pair_eq ?_ rfl)
      simp
    · simp only [F_impl_RoundsMany_l7]
      rw [if_neg (by rw [ints_len]; omega), List.take_length]
  · have hs : 2 * k + 1 < 2 ^ g.length := by omega
    simp only [F_impl_RoundsMany_l1]
    rw [cal_of (all_eq (by omega)), hnl, if_pos ((bv_lt (by omega) (by omega)).2 (by omega)), cal_of (list_eq (by omega)), bnd_l (inner2 h16 hnl hb hs (hodd k))]
    unfold F_impl_RoundsMany_k5
    have e1 : tabW (2 ^ g.length) (fM (nb g) (2 * k + 1) (els (2 * k + 1))) = tabW (2 ^ g.length) (fT (nb g) (2 * (k + 1) + 1)) := tabW_congr fun t v ht _ => fM_all h16 hnl hsym hs (hodd k) (by omega) ht v
    have e2 : BitVec.ofNat 32 (2 * k + 1) + 2#32 = BitVec.ofNat 32 (2 * (k + 1) + 1) := by
      rw [show (2#32) = BitVec.ofNat 32 2 from rfl, ← BitVec.ofNat_add]
      congr 1
    rw [e1, e2]
  · simp only [F_impl_RoundsMany_l1]
    rw [cal_of (all_eq (by omega)), hnl, if_neg (fun h => by have := (bv_lt (by omega) (by omega)).1 h; omega), show 2 ^ g.length - 1 = 2 * K + 1 by omega]
theorem T_FnExactRoundsMany (x0 : List (List Int)) (hx0 : Sz.ok x0) : F_laws_FnExactRoundsMany x0 = some true := by
  unfold F_laws_FnExactRoundsMany
  obtain ⟨m0, hm0, h0⟩ := szGraph_eq x0 1048576 (by omega) (by omega) hx0
  rw [cal_of hm0]
  rcases h0 with h0 | ⟨b0, e0, l0, r0⟩
  · rw [if_pos h0]
  rw [if_neg (by omega)]
  rw [cal_of (toGraph_eq x0 l0 r0), cal_of (specRoundsMany_eq x0 l0 r0), cal_of (toGraph_eq x0 l0 r0), cal_of (implRoundsMany_eq x0 l0 r0), if_neg (by simp), cal_of (toGraph_eq x0 l0 r0), cal_of (eqGraph_eq x0 l0 r0), if_neg (by simp)]
end Go.Proofs.YthbmcbflnibpbaaDoor

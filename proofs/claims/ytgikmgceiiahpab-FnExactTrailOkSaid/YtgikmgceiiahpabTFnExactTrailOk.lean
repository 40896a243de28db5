/- FnExactTrailOk: the plain law. -/
import Derived.Test.YtgikmgceiiahpabEdges
import Derived.Test.YtgikmgceiiahpabTab
import Derived.Test.YtgikmgceiiahpabSlices
import Derived.Test.YtgikmgceiiahpabLawGraph
namespace Go.Proofs.Ytgikmgceiiahpab
/-- without an edge -/
def rmE (a : List Nat) (u v : Nat) : List Nat := (a.set u (sdiff (a.getD u 0) (2 ^ v))).set v (sdiff (a.getD v 0) (2 ^ u))
theorem rmE_len (a : List Nat) (u v : Nat) : (rmE a u v).length = a.length := by simp [rmE]
theorem rmE_get {a : List Nat} {u v w : Nat} (huv : u ≠ v) (hw : w < a.length) : (rmE a u v).getD w 0 = if w = v then sdiff (a.getD v 0) (2 ^ u) else if w = u then sdiff (a.getD u 0) (2 ^ v) else a.getD w 0 := by
  unfold rmE
  simp only [List.getD_eq_getElem?_getD, List.getElem?_set, List.length_set]
  by_cases h1 : v = w
  · subst h1; simp [hw]
  · by_cases h2 : u = w
    · subst h2; simp [hw, h1, Ne.symm h1]
    · simp [h1, h2, Ne.symm h1, Ne.symm h2]
theorem rmE_bit {a : List Nat} {u v w j : Nat} (huv : u ≠ v) (hw : w < a.length) : ((rmE a u v).getD w 0).testBit j = ((a.getD w 0).testBit j && !(decide (w = u ∧ j = v) || decide (w = v ∧ j = u))) := by
  rw [rmE_get huv hw]
  by_cases h1 : w = v
  · subst h1
    rw [if_pos rfl, delbit_bit]
    by_cases e : j = u
    · subst e; simp
    · simp [e, Ne.symm e, Ne.symm huv]
  · rw [if_neg h1]
    by_cases h2 : w = u
    · subst h2
      rw [if_pos rfl, delbit_bit]
      by_cases e : j = v
      · subst e; simp
      · simp [e, Ne.symm e, h1]
    · rw [if_neg h2]; simp [h1, h2]
theorem sym_of {a : List Nat} (h1 : ∀ v, v < a.length → a.getD v 0 < 2 ^ a.length) (h2 : ∀ v, v < a.length → (a.getD v 0).testBit v = false) (h3 : ∀ u v, u < a.length → v < a.length → (a.getD u 0).testBit v = (a.getD v 0).testBit u) : Sym a :=
  ⟨fun v h => by rw [← getD_get h]; exact h1 v h, fun v h => by rw [← getD_get h]; exact h2 v h, fun u v hu hv => by rw [← getD_get hu, ← getD_get hv]; exact h3 u v hu hv⟩
theorem Sym.lt' {a : List Nat} (h : Sym a) {v : Nat} (hv : v < a.length) : a.getD v 0 < 2 ^ a.length := by rw [getD_get hv]; exact h.lt v hv
theorem Sym.irr' {a : List Nat} (h : Sym a) {v : Nat} (hv : v < a.length) : (a.getD v 0).testBit v = false := by rw [getD_get hv]; exact h.irr v hv
theorem Sym.sym' {a : List Nat} (h : Sym a) {u v : Nat} (hu : u < a.length) (hv : v < a.length) : (a.getD u 0).testBit v = (a.getD v 0).testBit u := by rw [getD_get hu, getD_get hv]; exact h.sym u v hu hv
theorem rmE_sym {a : List Nat} (h : Sym a) {u v : Nat} (huv : u ≠ v) (hu : u < a.length) (hv : v < a.length) : Sym (rmE a u v) := by
  refine sym_of (fun w hw => ?_) (fun w hw => ?_) (fun w x hw hx => ?_)
  · rw [rmE_len] at hw ⊢
    rw [rmE_get huv hw]
    split
    · exact sdiff_lt (h.lt' hv)
    · split
      · exact sdiff_lt (h.lt' hu)
      · exact h.lt' hw
  · rw [rmE_len] at hw
    rw [rmE_bit huv hw, h.irr' hw]; rfl
  · rw [rmE_len] at hw hx
    rw [rmE_bit huv hw, rmE_bit huv hx, h.sym' hw hx]
    congr 2
    by_cases e1 : w = u <;> by_cases e2 : x = v <;> by_cases e3 : w = v <;> by_cases e4 : x = u <;> simp [e1, e2, e3, e4]
theorem sumTo_two {n : Nat} {f g : Nat → Nat} {u v : Nat} (hu : u < n) (hv : v < n) (huv : u ≠ v) (h1 : f u = g u + 1) (h2 : f v = g v + 1) (h3 : ∀ w, w < n → w ≠ u → w ≠ v → f w = g w) : sumTo n f = sumTo n g + 2 := by
  have e : sumTo n f = sumTo n (fun w => g w + ((if w = u then 1 else 0) + (if w = v then 1 else 0))) := by
    refine sumTo_congr fun w hw => ?_
    by_cases e1 : w = u
    · subst e1; simp [h1, huv]
    · by_cases e2 : w = v
      · subst e2; simp [h2, e1]
      · simp [e1, e2, h3 w hw e1 e2]
  have one : ∀ n x, x < n → sumTo n (fun w => if w = x then 1 else 0) = 1 := by
    intro n x hx
    induction n with
    | zero => omega
    | succ n ih =>
      rw [sumTo_succ]
      by_cases e : x = n
      · subst e; rw [sumTo_zero (fun i hi => if_neg (by omega))]; simp
      · rw [ih (by omega), if_neg (Ne.symm e)]
  rw [e, sumTo_add, sumTo_add, one n u hu, one n v hv]
theorem rmE_deg {a : List Nat} (ha : a.length ≤ 16) (h : Sym a) {u v : Nat} (hu : u < a.length) (hv : v < a.length) (hb : (a.getD u 0).testBit v = true) : degSum a = degSum (rmE a u v) + 2 := by
  have huv : u ≠ v := by intro e; subst e; rw [h.irr' hu] at hb; cases hb
  unfold degSum
  rw [rmE_len]
  have hp := pow16 ha
  refine sumTo_two hu hv huv ?_ ?_ (fun w hw h1 h2 => ?_)
  · rw [rmE_get huv hu, if_neg huv, if_pos rfl]
    exact card_del hb (Nat.lt_of_lt_of_le (h.lt' hu) hp)
  · rw [rmE_get huv hv, if_pos rfl]
    exact card_del (by rw [← h.sym' hu hv]; exact hb) (Nat.lt_of_lt_of_le (h.lt' hv) hp)
  · rw [rmE_get huv hw, if_neg h2, if_neg h1]
/-- what is left behind k steps of a trail -/
def trailAt (a : List Nat) (l : List Int) : Nat → List Nat
  | 0 => a
  | k + 1 => rmE (trailAt a l k) (l.getD k 0).toNat (l.getD (k + 1) 0).toNat
def Has (n : Nat) (v : Int) : Prop := 0 ≤ v ∧ v < n
/-- step k: to a vertex that is there, along an edge that is left -/
def StepOk (a : List Nat) (l : List Int) (k : Nat) : Prop := Has a.length (l.getD (k + 1) 0) ∧ ((trailAt a l k).getD (l.getD k 0).toNat 0).testBit (l.getD (k + 1) 0).toNat = true
theorem trail_inv {a : List Nat} (ha : a.length ≤ 16) (hA : Sym a) {l : List Int} (h0 : Has a.length (l.getD 0 0)) : ∀ k, (∀ j, j < k → StepOk a l j) → (trailAt a l k).length = a.length ∧ Sym (trailAt a l k) ∧ degSum (trailAt a l k) + 2 * k = degSum a ∧ Has a.length (l.getD k 0)
  | 0, _ => ⟨rfl, hA, rfl, h0⟩
  | k + 1, h => by
    obtain ⟨h1, h2, h3, h4⟩ := trail_inv ha hA h0 k (fun j hj => h j (by omega))
    obtain ⟨h5, h6⟩ := h k (by omega)
    unfold Has at h4 h5
    have hu : (l.getD k 0).toNat < (trailAt a l k).length := by omega
    have hv : (l.getD (k + 1) 0).toNat < (trailAt a l k).length := by omega
    have huv : (l.getD k 0).toNat ≠ (l.getD (k + 1) 0).toNat := by intro e; rw [e] at h6 hu; rw [h2.irr' hu] at h6; cases h6
    refine ⟨by show (rmE _ _ _).length = _; rw [rmE_len, h1], rmE_sym h2 huv hu hv, ?_, h5⟩
    have := rmE_deg (by omega) h2 hu hv h6
    show degSum (rmE _ _ _) + _ = _
    omega
def IsTrail (g : List (List Int)) (l : List Int) : Prop :=
  GOk g ∧ 1 ≤ l.length ∧ l.length ≤ 121 ∧ Has g.length (l.getD 0 0) ∧ l.length - 1 = (edges g).length ∧ ∀ k, k < l.length - 1 → StepOk (nb g) l k
theorem getD_lt {l : List Int} {k : Nat} (h : k < l.length) : l.getD k 0 = l[k] := by simp [h]
theorem ints_set (l : List Nat) (k x : Nat) : (ints l).set k (x : Int) = ints (l.set k x) := by unfold ints; rw [List.map_set]
theorem bvs_set (l : List Nat) (k x : Nat) : (bvs l).set k (BitVec.ofNat 32 x) = bvs (l.set k x) := by unfold bvs; rw [List.map_set]
open Classical in
theorem specTrailOk_eq (g : List (List Int)) (l : List Int) (hgl : g.length ≤ 1048576) (hl : ∀ x ∈ g, x.length ≤ 1048576) (hs : l.length ≤ 1048576) : F_spec_TrailOk g l = some (decide (IsTrail g l)) := by
  unfold F_spec_TrailOk
  rw [cal_of (specGraphOk_eq g hl)]
  by_cases hg : GOk g
  case neg => rw [if_pos (by simp [hg])]; simp [hg, IsTrail]
  have h16 := hg.n16
  rw [if_neg (by simp [hg]), cal_of (l1In_eq _ _ _)]
  by_cases hn : 1 ≤ l.length ∧ l.length ≤ 121
  case neg =>
    rw [if_pos (by simp; omega)]
    exact congrArg some (decide_eq_false (fun h => hn ⟨h.2.1, h.2.2.1⟩)).symm
  rw [if_neg (by simp; omega), idx_of (x := l[0]) (by decide) (by simp)]
  unfold F_spec_l1There F_spec_l1Size
  simp only [cal_some_eq]
  rw [ck_of (inI (by omega) (by omega)), l1In_eq, cal_some_eq, cal_some_eq]
  have e0 : l.getD 0 0 = l[0] := getD_lt (by omega)
  by_cases hv : Has g.length (l.getD 0 0)
  case neg =>
    rw [if_pos (by unfold Has at hv; rw [e0] at hv; simp; omega)]
    exact congrArg some (decide_eq_false (fun h => hv h.2.2.2.1)).symm
  rw [if_neg (by unfold Has at hv; rw [e0] at hv; simp; omega), ck_of (inI (by omega) (by omega))]
  unfold F_spec_ManyEdges
  rw [specGraphOk_eq g hl, cal_some_eq, if_neg (by simp [hg]), l1Edges_eq hg, cal_some_eq, cal_some_eq]
  by_cases hm : l.length - 1 = (edges g).length
  case neg =>
    rw [if_pos (by omega)]
    exact congrArg some (decide_eq_false (fun h => hm h.2.2.2.2.1)).symm
  rw [if_neg (by omega), cal_of (l25Bits_eq hg)]
  have hA := nbs_sym hg
  have hnl := nb_len g
  have key := lp_allC (step := fun s => F_spec_TrailOk_l1 g l s.1 s.2) (fun k => (ints (trailAt (nb g) l k), ((k + 1 : Nat) : Int))) (l.length - 1) (StepOk (nb g) l) (∀ k, k < l.length - 1 → StepOk (nb g) l k) (oT := .inl ()) (oF := .inr false) Iff.rfl ?_ ?_ ?_
  · simp only [trailAt] at key
    rw [show ((0 + 1 : Nat) : Int) = 1 from rfl] at key
    rw [key, bnd_if]
    unfold F_spec_TrailOk_k2
    by_cases h : ∀ k, k < l.length - 1 → StepOk (nb g) l k
    · rw [if_pos h]; exact congrArg some (decide_eq_true ⟨hg, hn.1, hn.2, hv, hm, h⟩).symm
    · rw [if_neg h]; exact congrArg some (decide_eq_false (fun h' => h h'.2.2.2.2.2)).symm
  · intro k hk hb hp
    obtain ⟨t1, t2, t3, t4⟩ := trail_inv (by omega) hA (by rw [hnl]; exact hv) k hb
    obtain ⟨p1, p2⟩ := hp
    unfold Has at t4 p1
    rw [hnl] at t1 t4 p1
    have hu : (l.getD k 0).toNat < (trailAt (nb g) l k).length := by omega
    have hw : (l.getD (k + 1) 0).toNat < (trailAt (nb g) l k).length := by omega
    rw [getD_lt (show k < l.length by omega)] at t4 hu p2
    rw [getD_lt (show k + 1 < l.length by omega)] at p1 hw p2
    obtain ⟨u, hu2⟩ := Int.eq_ofNat_of_zero_le t4.1
    obtain ⟨v, hv2⟩ := Int.eq_ofNat_of_zero_le p1.1
    have hst : trailAt (nb g) l (k + 1) = rmE (trailAt (nb g) l k) u v := by
      show rmE _ _ _ = _
      rw [getD_lt (show k < l.length by omega), getD_lt (show k + 1 < l.length by omega), hu2, hv2]; rfl
    rw [hu2] at hu t4 p2; rw [hv2] at hw p1 p2
    simp only [Int.toNat_natCast] at hu hw p2
    have hlu := t2.lt u hu
    have hlv := t2.lt v hw
    have hp16 : 2 ^ (trailAt (nb g) l k).length ≤ 2 ^ 16 := pow16 (by omega)
    have hu64 : 2 ^ u < 2 ^ 62 := Nat.pow_lt_pow_right (by decide) (by omega)
    have hv64 : 2 ^ v < 2 ^ 62 := Nat.pow_lt_pow_right (by decide) (by omega)
    have huv : u ≠ v := by intro e; subst e; rw [t2.irr' hu] at p2; cases p2
    rw [getD_get hu] at p2
    have q1 : l[((k + 1 : Nat) : Int).toNat - 1]? = some (u : Int) := by simp; rw [← hu2]; simp
    generalize hA' : trailAt (nb g) l k = A at *
    simp only [F_spec_TrailOk_l1, F_spec_l1There, F_spec_l1Size, cal_some_eq]
    rw [if_pos (by omega), ck_of (inI (by omega) (by omega)), show ((k + 1 : Nat) : Int) - 1 = (k : Int) by omega, idx_nat (by omega), idx_nat (by omega), hu2, hv2, ck_of (inI (by omega) (by omega)), l1In_eq, cal_some_eq, cal_some_eq, if_neg (by simp; omega),
      idx_ints hu, grd_of (Int.natCast_nonneg _), Int.toNat_natCast, bit_asked (by omega), p2, if_neg (by simp), idx_ints hu, grd_of (Int.natCast_nonneg _), two_pow_nat, ck_of (inI_nat hv64), idx_ints hu, i64andn_nat (by omega) (by omega), Int.toNat_natCast, ints_set,
      idx_ints (by rw [List.length_set]; exact hw), grd_of (Int.natCast_nonneg _), two_pow_nat, ck_of (inI_nat hu64), idx_ints (by rw [List.length_set]; exact hw), ck_of (inI (by omega) (by omega)), List.getElem_set_ne huv, i64andn_nat (by omega) (by omega), ints_set, hst]
    unfold rmE
    rw [getD_get hu, getD_get hw]; rfl
  · intro k hk hb hp
    obtain ⟨t1, t2, t3, t4⟩ := trail_inv (by omega) hA (by rw [hnl]; exact hv) k hb
    unfold Has at t4
    rw [hnl] at t1 t4
    have hu : (l.getD k 0).toNat < (trailAt (nb g) l k).length := by omega
    rw [getD_lt (show k < l.length by omega)] at t4 hu
    obtain ⟨u, hu2⟩ := Int.eq_ofNat_of_zero_le t4.1
    rw [hu2] at hu t4
    simp only [Int.toNat_natCast] at hu
    have hlu := t2.lt u hu
    have hp16 : 2 ^ (trailAt (nb g) l k).length ≤ 2 ^ 16 := pow16 (by omega)
    unfold StepOk at hp
    rw [getD_lt (show k < l.length by omega), getD_lt (show k + 1 < l.length by omega), hu2, Int.toNat_natCast, getD_get hu] at hp
    simp only [F_spec_TrailOk_l1, F_spec_l1There, F_spec_l1Size, cal_some_eq]
    rw [if_pos (by omega), ck_of (inI (by omega) (by omega)), show ((k + 1 : Nat) : Int) - 1 = (k : Int) by omega, idx_nat (by omega), idx_nat (by omega), hu2, ck_of (inI (by omega) (by omega)), l1In_eq, cal_some_eq, cal_some_eq]
    by_cases hh : 0 ≤ l[k + 1] ∧ l[k + 1] ≤ (g.length : Int) - 1
    · rw [if_neg (by simpa using hh)]
      obtain ⟨v, hv2⟩ := Int.eq_ofNat_of_zero_le hh.1
      rw [hv2] at hp hh ⊢
      have hbf : (trailAt (nb g) l k)[u].testBit v = false := by
        cases e : (trailAt (nb g) l k)[u].testBit v with
        | false => rfl
        | true => exact absurd ⟨⟨hh.1, by rw [hnl]; omega⟩, by rw [Int.toNat_natCast]; exact e⟩ hp
      rw [idx_ints hu, grd_of (Int.natCast_nonneg _), Int.toNat_natCast, bit_asked (by omega), hbf, if_pos (by simp)]
    · rw [if_pos (by simpa using hh)]
  · intro _
    simp only [F_spec_TrailOk_l1]
    rw [if_neg (by omega)]
open Classical in
theorem implTrailOk_eq (g : List (List Int)) (l : List Int) (hgl : g.length ≤ 1048576) (hl : ∀ x ∈ g, x.length ≤ 1048576) (hs : l.length ≤ 1048576) : F_impl_TrailOk g l = some (decide (IsTrail g l)) := by
  unfold F_impl_TrailOk
  rw [cal_of (implGraphOk_eq g hgl hl)]
  by_cases hg : GOk g
  case neg => rw [if_pos (by simp [hg])]; simp [hg, IsTrail]
  have h16 := hg.n16
  rw [if_neg (by simp [hg])]
  by_cases hn1 : 1 ≤ l.length
  case neg =>
    rw [if_pos (by omega)]
    exact congrArg some (decide_eq_false (fun h => hn1 h.2.1)).symm
  rw [if_neg (by omega)]
  by_cases hn2 : l.length ≤ 121
  case neg =>
    rw [if_pos (by omega)]
    exact congrArg some (decide_eq_false (fun h => hn2 h.2.2.1)).symm
  rw [if_neg (by omega), hasF_int64 l _ (fun v => decide (¬ Has g.length v)) hs (fun x hx => ?_), cal_some_eq]
  · have hA := nbs_sym hg
    have hnl := nb_len g
    by_cases hall : ∀ v ∈ l, Has g.length v
    case neg =>
      rw [if_pos (by rw [List.any_eq_true]; exact Classical.byContradiction fun hn => hall fun v hv => Classical.byContradiction fun hh => hn ⟨v, hv, by simp [hh]⟩)]
      refine congrArg some (decide_eq_false (fun h => hall fun v hv => ?_)).symm
      obtain ⟨j, hj, rfl⟩ := List.getElem_of_mem hv
      rcases Nat.eq_zero_or_pos j with e | e
      · subst e; have := h.2.2.2.1; rwa [getD_lt hj] at this
      · obtain ⟨i, rfl⟩ : ∃ i, j = i + 1 := ⟨j - 1, by omega⟩
        have := (h.2.2.2.2.2 i (by omega)).1
        rw [getD_lt hj, hnl] at this; exact this
    rw [if_neg (by
      rw [List.any_eq_true]; rintro ⟨v, hv, h⟩; simp [hall v hv] at h), cal_of (netsOf_eq hg)]
    have hv0 : Has g.length (l.getD 0 0) := by rw [getD_lt (by omega)]; exact hall _ (List.getElem_mem _)
    have key := lp_allC (step := fun s => F_impl_TrailOk_l1 l s.1 s.2) (fun k => (bvs (trailAt (nb g) l k), ((k + 1 : Nat) : Int))) (l.length - 1) (StepOk (nb g) l) (∀ k, k < l.length - 1 → StepOk (nb g) l k)
      (oT := .inl (bvs (trailAt (nb g) l (l.length - 1)))) (oF := .inr false) Iff.rfl ?_ ?_ ?_
    · simp only [trailAt] at key
      rw [show ((0 + 1 : Nat) : Int) = 1 from rfl] at key
      rw [key]
      by_cases h : ∀ k, k < l.length - 1 → StepOk (nb g) l k
      case neg => rw [if_neg h, bnd_inr_eq]; exact congrArg some (decide_eq_false (fun h' => h h'.2.2.2.2.2)).symm
      rw [if_pos h, bnd_inl_eq]
      obtain ⟨t1, t2, t3, t4⟩ := trail_inv (by omega) hA (by rw [hnl]; exact hv0) _ h
      have hE := edges_len hg
      unfold F_impl_TrailOk_k2 F_impl_edgesLeft
      generalize hA' : trailAt (nb g) l (l.length - 1) = A at *
      rw [hasF_impl_nets_impl_vset _ (fun z1 => F_impl_edgesLeft_1 z1) (fun x => decide (x ≠ 0#32)) (by rw [bvs_len]; omega) (fun x _ => rfl), cal_some_eq, cal_some_eq]
      congr 1
      rw [Bool.eq_iff_iff, Bool.not_eq_true', List.any_eq_false, decide_eq_true_iff]
      have hp16 : 2 ^ A.length ≤ 2 ^ 16 := pow16 (by omega)
      constructor
      · intro hz
        refine ⟨hg, hn1, hn2, hv0, ?_, h⟩
        have : degSum A = 0 := sumTo_zero fun u hu => by
          have h1 := hz (BitVec.ofNat 32 A[u]) (by unfold bvs; exact List.mem_map.2 ⟨_, List.getElem_mem hu, rfl⟩)
          have h2 := t2.lt u hu
          have h3 : A[u] = 0 := by simpa [bv_inj (show A[u] < 2 ^ 32 by omega) (show 0 < 2 ^ 32 by decide)] using h1
          rw [getD_get hu, h3, card_zero]
        omega
      · intro hT x hx
        have hz : degSum A = 0 := by have := hT.2.2.2.2.1; omega
        unfold bvs at hx
        obtain ⟨y, hy, rfl⟩ := List.mem_map.1 hx
        obtain ⟨u, hu, rfl⟩ := List.getElem_of_mem hy
        have h0 := sumTo_eq_zero hz u hu
        rw [getD_get hu] at h0
        have h2 := t2.lt u hu
        rw [(card_eq_zero (by omega)).1 h0]; simp
    · intro k hk hb hp
      obtain ⟨t1, t2, t3, t4⟩ := trail_inv (by omega) hA (by rw [hnl]; exact hv0) k hb
      obtain ⟨p1, p2⟩ := hp
      unfold Has at t4 p1
      rw [hnl] at t1 t4 p1
      have hu : (l.getD k 0).toNat < (trailAt (nb g) l k).length := by omega
      have hw : (l.getD (k + 1) 0).toNat < (trailAt (nb g) l k).length := by omega
      rw [getD_lt (show k < l.length by omega)] at t4 hu p2
      rw [getD_lt (show k + 1 < l.length by omega)] at p1 hw p2
      obtain ⟨u, hu2⟩ := Int.eq_ofNat_of_zero_le t4.1
      obtain ⟨v, hv2⟩ := Int.eq_ofNat_of_zero_le p1.1
      have hst : trailAt (nb g) l (k + 1) = rmE (trailAt (nb g) l k) u v := by
        show rmE _ _ _ = _
        rw [getD_lt (show k < l.length by omega), getD_lt (show k + 1 < l.length by omega), hu2, hv2]; rfl
      rw [hu2] at hu t4 p2; rw [hv2] at hw p1 p2
      simp only [Int.toNat_natCast] at hu hw p2
      have hlu := t2.lt u hu
      have hlv := t2.lt v hw
      have hp16 : 2 ^ (trailAt (nb g) l k).length ≤ 2 ^ 16 := pow16 (by omega)
      have huv : u ≠ v := by intro e; subst e; rw [t2.irr' hu] at p2; cases p2
      rw [getD_get hu] at p2
      generalize hA' : trailAt (nb g) l k = A at *
      simp only [F_impl_TrailOk_l1]
      unfold F_impl_useEdge F_impl_nets_part
      rw [if_pos (by omega), ck_of (inI (by omega) (by omega)), show ((k + 1 : Nat) : Int) - 1 = (k : Int) by omega, idx_nat (by omega), idx_nat (by omega), hu2, hv2, idx_bvs hu, cal_of (has_eq (by omega) (by omega)), p2, if_neg (by simp),
        idx_bvs hu, one_eq (by omega), cal_some_eq, idx_bvs hu, bv_andn (by omega), Int.toNat_natCast, bvs_set, idx_bvs (by rw [List.length_set]; exact hw), one_eq (by omega), cal_some_eq, idx_bvs (by rw [List.length_set]; exact hw), List.getElem_set_ne huv, bv_andn (by omega),
        Int.toNat_natCast, bvs_set, cal_some_eq, cal_some_eq, if_neg (by simp), ck_of (inI (by omega) (by omega)), hst]
      unfold rmE
      rw [getD_get hu, getD_get hw]; rfl
    · intro k hk hb hp
      obtain ⟨t1, t2, t3, t4⟩ := trail_inv (by omega) hA (by rw [hnl]; exact hv0) k hb
      unfold Has at t4
      rw [hnl] at t1 t4
      have hu : (l.getD k 0).toNat < (trailAt (nb g) l k).length := by omega
      rw [getD_lt (show k < l.length by omega)] at t4 hu
      obtain ⟨u, hu2⟩ := Int.eq_ofNat_of_zero_le t4.1
      rw [hu2] at hu t4
      simp only [Int.toNat_natCast] at hu
      have hlu := t2.lt u hu
      have hp16 : 2 ^ (trailAt (nb g) l k).length ≤ 2 ^ 16 := pow16 (by omega)
      have hh := hall l[k + 1] (List.getElem_mem _)
      unfold Has at hh
      obtain ⟨v, hv2⟩ := Int.eq_ofNat_of_zero_le hh.1
      unfold StepOk at hp
      rw [getD_lt (show k < l.length by omega), getD_lt (show k + 1 < l.length by omega), hu2, hv2, Int.toNat_natCast, getD_get hu] at hp
      rw [hv2] at hh
      have hbf : (trailAt (nb g) l k)[u].testBit v = false := by
        cases e : (trailAt (nb g) l k)[u].testBit v with
        | false => rfl
        | true => exact absurd ⟨⟨hh.1, by rw [hnl]; omega⟩, by rw [Int.toNat_natCast]; exact e⟩ hp
      simp only [F_impl_TrailOk_l1]
      unfold F_impl_useEdge
      rw [if_pos (by omega), ck_of (inI (by omega) (by omega)), show ((k + 1 : Nat) : Int) - 1 = (k : Int) by omega, idx_nat (by omega), idx_nat (by omega), hu2, hv2, idx_bvs hu, cal_of (has_eq (by omega) (by omega)), hbf, if_pos (by simp), cal_some_eq, if_pos (by simp)]
    · intro _
      simp only [F_impl_TrailOk_l1]
      rw [if_neg (by omega)]
  · unfold F_impl_TrailOk_1 F_impl_isVertex
    rw [implGraphOk_eq g hgl hl, cal_some_eq, if_pos (by simp [hg]), ck_of (inI (by omega) (by omega)), inRange_eq, cal_some_eq, cal_some_eq]
    unfold Has
    congr 1
    rw [Bool.eq_iff_iff]; simp; omega
theorem T_FnExactTrailOk (x0 : List (List Int)) (hx0 : Sz.ok x0) (x1 : List Int) (hx1 : Sz.ok x1) : F_laws_FnExactTrailOk x0 x1 = some true := by
  unfold F_laws_FnExactTrailOk
  by_cases c1 : 1048576 < (x1.length : Int)
  · rw [if_pos c1]
  rw [if_neg c1]
  have l1 : x1.length ≤ 1048576 := by omega
  obtain ⟨m0, hm0, h0⟩ := szGraph_eq x0 1048576 (by omega) (by omega) hx0
  rw [cal_of hm0]
  rcases h0 with h0 | ⟨b0, e0, l0, r0⟩
  · rw [if_pos h0]
  rw [if_neg (by omega)]
  rw [cal_of (toGraph_eq x0 l0 r0), cal_of (toInt64S_eq x1 (by omega)), cal_of (specTrailOk_eq x0 x1 l0 r0 l1), cal_of (toGraph_eq x0 l0 r0), cal_of (toInt64S_eq x1 (by omega)), cal_of (implTrailOk_eq x0 x1 l0 r0 l1), if_neg (by simp), cal_of (toGraph_eq x0 l0 r0), cal_of (eqGraph_eq x0 l0 r0), if_neg (by simp), cal_of (toInt64S_eq x1 (by omega)), cal_of (eqInt64S_eq x1 x1 (by omega)), if_neg (by simp)]
end Go.Proofs.Ytgikmgceiiahpab

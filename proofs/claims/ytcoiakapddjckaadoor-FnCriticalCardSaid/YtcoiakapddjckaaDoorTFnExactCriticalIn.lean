/- FnExactCriticalIn: the plain law. -/
import Derived.Test.YtcoiakapddjckaaDoorCritical
import Derived.Test.YtcoiakapddjckaaDoorLawGraph
namespace Go.Proofs.YtcoiakapddjckaaDoor
/-- a row without a vertex, those behind it moved down -/
def lowr (v : Nat) (r : List Int) : List Int := (r.filter fun w => decide (w ≠ (v : Int))).map fun w => if w < (v : Int) then w else w - 1
def without (g : List (List Int)) (v : Nat) : List (List Int) := (others g.length v).map fun u => lowr v (g.getD u [])
theorem lowr_snoc (v : Nat) (r : List Int) (w : Int) : lowr v (r ++ [w]) = if w < v then lowr v r ++ [w] else if (v : Int) < w then lowr v r ++ [w - 1] else lowr v r := by
  unfold lowr
  rw [List.filter_append, List.map_append]
  split
  · rename_i h
    rw [List.filter_cons, if_pos (by simp; omega)]; simp [h]
  · rename_i h
    split
    · rename_i h2
      rw [List.filter_cons, if_pos (by simp; omega)]; simp [h]
    · rename_i h2
      have e : w = (v : Int) := by omega
      subst e
      simp
theorem lowr_len (v : Nat) (r : List Int) : (lowr v r).length ≤ r.length := by unfold lowr; rw [List.length_map]; exact List.length_filter_le ..
theorem l26Without_eq {g : List (List Int)} (hg : GOk g) {v : Nat} (hv : v < g.length) : F_spec_l26Without g (v : Int) = some (without g v) := by
  have h16 := hg.n16
  unfold F_spec_l26Without
  have key : lp (fun s => F_spec_l26Without_l1 g (v : Int) s.1 s.2) (([] : List (List Int)), 0) = some (.inl (((List.range g.length).filter fun u => decide (u ≠ v)).map fun u => lowr v (g.getD u []))) := by
    refine lp_nums g.length (fun k => ((List.range k).filter fun u => decide (u ≠ v)).map fun u => lowr v (g.getD u [])) (fun u hu => ?_) ?_
    · simp only [F_spec_l26Without_l1]
      rw [if_pos (by omega)]
      have hrl := hg.row_len hu
      generalize hacc : (((List.range u).filter fun u => decide (u ≠ v)).map fun u => lowr v (g.getD u [])) = acc
      have hal : acc.length ≤ u := by rw [← hacc, List.length_map]; exact Nat.le_trans (List.length_filter_le ..) (by simp)
      have inner : lp (fun s => F_spec_l26Without_l2 g (v : Int) (u : Int) s.1 s.2.1 s.2.2) (acc, ([] : List Int), 0) = some (.inl (acc, lowr v g[u])) := by
        refine lp_upto (fun k => (acc, lowr v (g[u].take k), (k : Int))) g[u].length rfl (fun k hk => ?_) ?_
        · simp only [F_spec_l26Without_l2]
          have hx := hg.row_mem hu (List.getElem_mem hk)
          have hll := lowr_len v (g[u].take k)
          rw [List.length_take] at hll
          rw [idx_nat hu, if_pos (by omega), idx_nat hu, idx_nat hk, take_succ_of hk, lowr_snoc]
          by_cases h1 : g[u][k] < (v : Int)
          · rw [if_pos h1, if_pos h1, app1_s (by omega), ck_of (inI (by omega) (by omega))]; rfl
          · rw [if_neg h1, if_neg h1]
            by_cases h2 : (v : Int) < g[u][k]
            · rw [if_pos h2, if_pos h2, ck_of (inI (by omega) (by omega)), app1_s (by omega), ck_of (inI (by omega) (by omega))]; rfl
            · rw [if_neg h2, if_neg h2, ck_of (inI (by omega) (by omega))]; rfl
        · simp only [F_spec_l26Without_l2]
          rw [idx_nat hu, if_neg (by omega), List.take_length]
      rw [inner, bnd_inl_eq]
      unfold F_spec_l26Without_k3
      have hgu : g.getD u [] = g[u] := by simp [hu]
      rw [List.range_succ, List.filter_append, List.map_append, hacc]
      by_cases e : u = v
      · rw [if_neg (by simp [e]), ck_of (inI (by omega) (by omega))]
        simp [e]
      · rw [if_pos (by omega), app1_s (by show acc.length + 1 ≤ _; omega), ck_of (inI (by omega) (by omega))]
        rw [show List.filter (fun u => decide (u ≠ v)) [u] = [u] by simp [e], List.map_singleton, hgu]; rfl
    · simp only [F_spec_l26Without_l1]
      rw [if_neg (by omega)]
  rw [bnd_l key]
  unfold F_spec_l26Without_k4 without
  have : (List.range g.length).filter (fun u => decide (u ≠ v)) = others g.length v := by
    rw [← others_els h16 hv, els_range h16 (sdiff_lt (by have := Nat.two_pow_pos g.length; omega))]
    refine List.filter_congr fun x hx => ?_
    rw [List.mem_range] at hx
    rw [delbit_bit, Nat.testBit_two_pow_sub_one, decide_eq_true hx, Bool.true_and]
    by_cases e : x = v
    · subst e; simp
    · simp [e, Ne.symm e]
  rw [this]
theorem without_len (g : List (List Int)) (v : Nat) : (without g v).length = g.length - 1 := by simp [without, others_len]
theorem without_get {g : List (List Int)} {v i : Nat} (h : i < (without g v).length) : (without g v)[i] = lowr v (g.getD (past v i) []) := by
  have e : without g v = (List.range (g.length - 1)).map fun i => lowr v (g.getD (past v i) []) := by unfold without others; rw [List.map_map]; rfl
  have e2 : (without g v)[i]? = some (lowr v (g.getD (past v i) [])) := by rw [e, List.getElem?_map, List.getElem?_range (by rwa [without_len] at h)]; rfl
  exact Option.some.inj ((List.getElem?_eq_getElem h).symm.trans e2)
theorem past_int {v : Nat} {y : Int} (h0 : 0 ≤ y) (h : y ≠ (v : Int)) : ((past v (if y < (v : Int) then y else y - 1).toNat : Nat) : Int) = y := by
  unfold past
  repeat' split
  all_goals omega
theorem past_lt {n v i : Nat} (hi : i < n - 1) : past v i < n := by unfold past; split <;> omega
theorem without_rows {g : List (List Int)} (hg : GOk g) {v : Nat} (hv : v < g.length) : RowsIn (without g v) := by
  have h16 := hg.n16
  refine ⟨by rw [without_len]; omega, fun {i} h {x} hx => ?_, fun {i} h => ?_⟩
  · have h2 : i < g.length - 1 := by rwa [without_len] at h
    rw [without_len]
    rw [without_get h] at hx
    have hp := past_lt (v := v) h2
    have hgu : g.getD (past v i) [] = g[past v i] := by simp [hp]
    rw [hgu] at hx
    unfold lowr at hx
    obtain ⟨w, hw, rfl⟩ := List.mem_map.1 hx
    rw [List.mem_filter, decide_eq_true_iff] at hw
    have := hg.row_mem hp hw.1
    have h3 := hw.2
    split <;> omega
  · have h2 : i < g.length - 1 := by rwa [without_len] at h
    have hp := past_lt (v := v) h2
    have hgu : g.getD (past v i) [] = g[past v i] := by simp [hp]
    rw [without_get h, hgu]
    exact Nat.le_trans (lowr_len _ _) (hg.row_len hp)
theorem nb_without {g : List (List Int)} (hg : GOk g) {v : Nat} (hv : v < g.length) : nb (without g v) = ind (nb g) (others g.length v) := by
  have hnl := nb_len g
  refine List.ext_getElem (by rw [nb_len, without_len, ind_len, others_len]) fun i h1 h2 => ?_
  have h3 : i < g.length - 1 := by rwa [nb_len, without_len] at h1
  have hp := past_lt (v := v) h3
  have hgu : g.getD (past v i) [] = g[past v i] := by simp [hp]
  apply bits_ext
  intro j
  rw [← getD_get h2, ind_bit (by rw [others_len]; exact h3), others_len, others_at h3, nb_getD hp]
  have e1 : (nb (without g v))[i] = mk (lowr v g[past v i]) := by
    have := without_get (g := g) (v := v) (i := i) (by rwa [nb_len] at h1)
    rw [hgu] at this
    rw [nb_get (by rwa [nb_len] at h1), this]
  rw [e1, mk_bit, Bool.eq_iff_iff, decide_eq_true_iff, Bool.and_eq_true, decide_eq_true_iff]
  have hrow := fun x (hx : x ∈ g[past v i]) => hg.row_mem hp hx
  constructor
  · rintro ⟨w, hw, rfl⟩
    unfold lowr at hw
    obtain ⟨y, hy, rfl⟩ := List.mem_map.1 hw
    rw [List.mem_filter, decide_eq_true_iff] at hy
    have h4 := hrow y hy.1
    have h5 := hy.2
    have h6 : (if y < (v : Int) then y else y - 1).toNat < g.length - 1 := by split <;> omega
    refine ⟨h6, ?_⟩
    rw [others_at h6, mk_mem (fun v hv => (hrow v hv).1), decide_eq_true_iff]
    have := past_int (v := v) h4.1 h5
    rw [this]; exact hy.1
  · rintro ⟨h4, h5⟩
    rw [others_at h4, mk_mem (fun v hv => (hrow v hv).1), decide_eq_true_iff] at h5
    refine ⟨if ((past v j : Nat) : Int) < (v : Int) then ((past v j : Nat) : Int) else ((past v j : Nat) : Int) - 1, ?_, ?_⟩
    · unfold lowr
      refine List.mem_map.2 ⟨_, List.mem_filter.2 ⟨h5, ?_⟩, rfl⟩
      rw [decide_eq_true_iff]
      unfold past; split <;> omega
    · unfold past; repeat' split
      all_goals omega
/-- every vertex left out lowers the number of colours -/
def IsCritical (g : List (List Int)) : Prop := GOk g ∧ ∀ v, v < g.length → chrom (ind (nb g) (others g.length v)) + 1 = chrom (nb g)
open Classical in
theorem specCriticalIn_eq (g : List (List Int)) (hgl : g.length ≤ 1048576) (hl : ∀ x ∈ g, x.length ≤ 1048576) : F_spec_CriticalIn g = some (decide (IsCritical g)) := by
  unfold F_spec_CriticalIn
  rw [cal_of (specGraphOk_eq g hl)]
  by_cases hg : GOk g
  case neg => rw [if_pos (by simp [hg])]; simp [hg, IsCritical]
  have h16 := hg.n16
  have hnl := nb_len g
  have hch := chrom_le (nb g)
  rw [if_neg (by simp [hg]), cal_of (l26Best_eq hg.rowsIn)]
  have key := lp_allC (step := fun s => F_spec_CriticalIn_l1 g (ints (best (nb g)), (chrom (nb g) : Int)) s) (fun k => (k : Int)) g.length (fun v => chrom (ind (nb g) (others g.length v)) + 1 = chrom (nb g)) (∀ v, v < g.length → chrom (ind (nb g) (others g.length v)) + 1 = chrom (nb g)) (oT := .inl ()) (oF := .inr false) Iff.rfl ?_ ?_ ?_
  · rw [show (0 : Int) = ((0 : Nat) : Int) from rfl, key, bnd_if]
    unfold F_spec_CriticalIn_k2
    split
    · rename_i h; exact congrArg some (decide_eq_true (show IsCritical g from ⟨hg, h⟩)).symm
    · rename_i h; exact congrArg some (decide_eq_false (fun h' : IsCritical g => h h'.2)).symm
  · intro v hv _ hp
    simp only [F_spec_CriticalIn_l1]
    rw [if_pos (by omega), cal_of (l26Without_eq hg hv), cal_of (l26Best_eq (without_rows hg hv)), nb_without hg hv]
    simp only
    rw [ck_of (inI (by omega) (by omega)), if_neg (by omega), ck_of (inI (by omega) (by omega))]; rfl
  · intro v hv _ hp
    simp only [F_spec_CriticalIn_l1]
    rw [if_pos (by omega), cal_of (l26Without_eq hg hv), cal_of (l26Best_eq (without_rows hg hv)), nb_without hg hv]
    simp only
    rw [ck_of (inI (by omega) (by omega)), if_pos (by omega)]
  · intro _
    simp only [F_spec_CriticalIn_l1]
    rw [if_neg (by omega)]
open Classical in
theorem implCriticalIn_eq (g : List (List Int)) (hgl : g.length ≤ 1048576) (hl : ∀ x ∈ g, x.length ≤ 1048576) : F_impl_CriticalIn g = some (decide (IsCritical g)) := by
  unfold F_impl_CriticalIn
  rw [cal_of (implGraphOk_eq g hgl hl)]
  by_cases hg : GOk g
  case neg => rw [if_pos (by simp [hg])]; simp [hg, IsCritical]
  have h16 := hg.n16
  have hnl := nb_len g
  have hch := chrom_le (nb g)
  rw [if_neg (by simp [hg]), cal_of (netsOf_eq hg)]
  have hb16 : ∀ v (h : v < (nb g).length), (nb g)[v] < 2 ^ 16 := fun v h => nb_lt16 hg h
  have hrest : ∀ v, v < g.length → F_impl_vset_list (BitVec.ofNat 32 (2 ^ g.length - 1) &&& ~~~ BitVec.ofNat 32 (2 ^ v)) = some (ints (others g.length v)) := by
    intro v hv
    have hp : 2 ^ g.length ≤ 2 ^ 16 := pow16 h16
    have h0 : 0 < 2 ^ g.length := Nat.two_pow_pos _
    have := sdiff_le (2 ^ g.length - 1) (2 ^ v)
    rw [bv_andn (by omega), list_eq (by omega), others_els h16 hv]
  have hcls : ∀ v, v < g.length → 1 < g.length → F_impl_bestClasses (bvs (ind (nb g) (others g.length v))) = some (bvs (clss (best (ind (nb g) (others g.length v))) (chrom (ind (nb g) (others g.length v))))) := by
    intro v hv h1
    have hlen : (ind (nb g) (others g.length v)).length = g.length - 1 := by rw [ind_len, others_len]
    exact bestClasses_eq (by omega) (fun i h => Nat.lt_of_lt_of_le (ind_lt i h) (pow16 (by rw [others_len]; omega))) (by omega)
  have hind : ∀ v, v < g.length → F_impl_induced (bvs (nb g)) (ints (others g.length v)) = some (bvs (ind (nb g) (others g.length v))) := by
    intro v hv
    refine induced_eq (by omega) hb16 (by rw [others_len]; omega) (fun u hu => ?_)
    unfold others at hu
    obtain ⟨i, hi, rfl⟩ := List.mem_map.1 hu
    rw [hnl]; exact past_lt (List.mem_range.1 hi)
  have hdel : ∀ v, v < g.length → chrom (ind (nb g) (others g.length v)) ≤ chrom (nb g) ∧ chrom (nb g) ≤ chrom (ind (nb g) (others g.length v)) + 1 := by
    intro v hv
    have := chrom_del (nbs_sym hg) (v := v) (by omega)
    rwa [hnl] at this
  have key := lp_allC (step := fun s => F_impl_CriticalIn_l1 (bvs (nb g)) s) (fun k => (k : Int)) g.length (fun v => chrom (ind (nb g) (others g.length v)) + 1 = chrom (nb g)) (∀ v, v < g.length → chrom (ind (nb g) (others g.length v)) + 1 = chrom (nb g)) (oT := .inl ()) (oF := .inr false) Iff.rfl ?_ ?_ ?_
  · rw [show (0 : Int) = ((0 : Nat) : Int) from rfl, key, bnd_if]
    unfold F_impl_CriticalIn_k2
    split
    · rename_i h; exact congrArg some (decide_eq_true (show IsCritical g from ⟨hg, h⟩)).symm
    · rename_i h; exact congrArg some (decide_eq_false (fun h' : IsCritical g => h h'.2)).symm
  · intro v hv _ hp
    simp only [F_impl_CriticalIn_l1]
    rw [bvs_len, hnl, if_pos (by omega)]
    by_cases h1 : 1 < g.length
    · rw [if_pos (by omega), cal_of (all_eq (by omega)), cal_of (one_eq (by omega)), hnl, cal_of (hrest v hv), cal_of (hind v hv), cal_of (hcls v hv h1), cal_of (bestClasses_eq (by omega) hb16 (by omega)), bvs_len, bvs_len, clss_len, clss_len, if_neg (by omega), ck_of (inI (by omega) (by omega))]; rfl
    · rw [if_neg (by omega), ck_of (inI (by omega) (by omega))]; rfl
  · intro v hv _ hp
    simp only [F_impl_CriticalIn_l1]
    have h1 : 1 < g.length := by
      rcases Nat.lt_or_ge 1 g.length with h | h
      · exact h
      · have e1 : g.length = 1 := by omega
        have h2 := chrom_pos (a := nb g) (by omega)
        have h3 := chrom_le (ind (nb g) (others g.length v))
        rw [ind_len, others_len] at h3
        omega
    have := hdel v hv
    rw [bvs_len, hnl, if_pos (by omega), if_pos (by omega), cal_of (all_eq (by omega)), cal_of (one_eq (by omega)), hnl, cal_of (hrest v hv), cal_of (hind v hv), cal_of (hcls v hv h1), cal_of (bestClasses_eq (by omega) hb16 (by omega)), bvs_len, bvs_len, clss_len, clss_len, if_pos (by omega)]
  · intro _
    simp only [F_impl_CriticalIn_l1]
    rw [bvs_len, if_neg (by omega)]
end Go.Proofs.YtcoiakapddjckaaDoor

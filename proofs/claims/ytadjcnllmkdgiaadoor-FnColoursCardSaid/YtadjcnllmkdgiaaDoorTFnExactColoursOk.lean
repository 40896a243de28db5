/- FnExactColoursOk: the plain law. -/
import Derived.Test.YtadjcnllmkdgiaaDoorLawGraph
namespace Go.Proofs.YtadjcnllmkdgiaaDoor
/-- colours from 0 to n-1, and no edge in one colour -/
def ColOk (g : List (List Int)) (cs : List Int) : Prop :=
  ∀ (v : Nat) (h : v < cs.length), (0 ≤ cs[v] ∧ cs[v] ≤ (cs.length : Int) - 1) ∧ ∀ (hv : v < g.length), ∀ w ∈ g[v], ∀ (hw : w.toNat < cs.length), cs[w.toNat] ≠ cs[v]
open Classical in
theorem specCol_inner (g : List (List Int)) (cs : List Int) (hg : GOk g) (hl : ∀ x ∈ g, x.length ≤ 1048576) (he : cs.length = g.length) (k : Nat) (hk : k < cs.length) (hkg : k < g.length) :
    lp (fun s => F_spec_ColoursOk_l2 g cs (k : Int) s) 0 = some (if ∀ w ∈ g[k], ∀ (hw : w.toNat < cs.length), cs[w.toNat] ≠ cs[k] then .inl () else .inr (.inr (.inr false))) := by
  have hlk := hl _ (List.getElem_mem hkg)
  refine lp_for g[k].length (fun j => ∀ (hj : j < g[k].length) (hw : (g[k][j]).toNat < cs.length), cs[(g[k][j]).toNat] ≠ cs[k]) _ ⟨fun h j _ hj hw => h _ (List.getElem_mem hj) hw, fun h w hw => ?_⟩ (fun j hj hp => ?_) (fun j hj hp => ?_) ?_
  · obtain ⟨j, hj, rfl⟩ := List.getElem_of_mem hw
    exact h j hj hj
  · have hm := (hg.rows k hkg).1.mem (List.getElem_mem hj)
    obtain ⟨m, hm2⟩ := Int.eq_ofNat_of_zero_le hm.1
    have hmc : m < cs.length := by omega
    have hp := hp hj (by omega)
    simp only [F_spec_ColoursOk_l2]
    simp only [hm2, Int.toNat_natCast] at hp
    rw [idx_nat hkg, if_pos (Int.ofNat_lt.2 hj), idx_nat hkg, idx_nat hj, hm2, idx_nat hmc, idx_nat hk, if_neg hp, ck_of (inI (by omega) (by omega))]
  · have hm := (hg.rows k hkg).1.mem (List.getElem_mem hj)
    obtain ⟨m, hm2⟩ := Int.eq_ofNat_of_zero_le hm.1
    have hmc : m < cs.length := by clear hp; omega
    have hp : cs[m] = cs[k] := by
      by_cases e : cs[m] = cs[k]
      · exact e
      · refine absurd (fun _ hw => ?_) hp
        simp only [hm2, Int.toNat_natCast]; exact e
    simp only [F_spec_ColoursOk_l2]
    rw [idx_nat hkg, if_pos (Int.ofNat_lt.2 hj), idx_nat hkg, idx_nat hj, hm2, idx_nat hmc, idx_nat hk, if_pos hp]
  · simp only [F_spec_ColoursOk_l2]; rw [idx_nat hkg, if_neg (by omega)]
open Classical in
theorem specColoursOk_eq (g : List (List Int)) (cs : List Int) (hl : ∀ x ∈ g, x.length ≤ 1048576) (hc : cs.length ≤ 1048576) : F_spec_ColoursOk g cs = some (decide (GOk g ∧ cs.length = g.length ∧ ColOk g cs)) := by
  unfold F_spec_ColoursOk
  rw [cal_of (specGraphOk_eq g hl)]
  by_cases hg : GOk g
  case neg => rw [if_pos (by simp [hg])]; simp [hg]
  rw [if_neg (by simp [hg])]
  by_cases he : cs.length = g.length
  case neg => rw [if_pos (by omega)]; simp [he]
  rw [if_neg (by omega)]
  have key := lp_for (step := fun i => F_spec_ColoursOk_l1 g cs i) cs.length (fun v => ∀ (h : v < cs.length), (0 ≤ cs[v] ∧ cs[v] ≤ (cs.length : Int) - 1) ∧ ∀ (hv : v < g.length), ∀ w ∈ g[v], ∀ (hw : w.toNat < cs.length), cs[w.toNat] ≠ cs[v]) (ColOk g cs)
    (oT := .inl ()) (oF := .inr false) ⟨fun h k _ => h k, fun h k hk => h k hk hk⟩ (fun k hk hp => ?_) (fun k hk hp => ?_) ?_
  · rw [key, bnd_if]
    by_cases h : ColOk g cs <;> simp [h, hg, he, F_spec_ColoursOk_k4]
  · have hp := hp hk
    simp only [F_spec_ColoursOk_l1]
    rw [if_pos (Int.ofNat_lt.2 hk), idx_nat hk, ck_of (inI (by omega) (by omega)), cal_of (l1In_eq _ _ _), if_neg (by simp only [hp.1]; simp), specCol_inner g cs hg hl he k hk (by omega), if_pos (hp.2 (by omega)), bnd_inl_eq]
    unfold F_spec_ColoursOk_k3
    rw [ck_of (inI (by omega) (by omega))]
  · simp only [F_spec_ColoursOk_l1]
    rw [if_pos (Int.ofNat_lt.2 hk), idx_nat hk, ck_of (inI (by omega) (by omega)), cal_of (l1In_eq _ _ _)]
    by_cases h : 0 ≤ cs[k] ∧ cs[k] ≤ (cs.length : Int) - 1
    · rw [if_neg (by simp only [h]; simp), specCol_inner g cs hg hl he k hk (by omega), if_neg (fun h2 => hp fun _ => ⟨h, fun _ => h2⟩), bnd_inr_eq]
    · rw [if_pos (by simpa using h)]
  · simp only [F_spec_ColoursOk_l1]; rw [if_neg (by omega)]
open Classical in
theorem implCol_has (cs : List Int) (r : List Int) (c : Int) (hr : r.length ≤ 1048576) (hm : ∀ w ∈ r, 0 ≤ w ∧ w < cs.length) :
    F_slices_ContainsFunc_int64 r (fun (z : Int) => F_impl_ColoursOk_1 z cs c) = some (decide (¬ ∀ w ∈ r, ∀ (hw : w.toNat < cs.length), cs[w.toNat] ≠ c)) := by
  unfold F_slices_ContainsFunc_int64 F_slices_IndexFunc_int64
  have hstep : ∀ (j : Nat) (hj : j < r.length) (hw : (r[j]).toNat < cs.length), F_impl_ColoursOk_1 r[j] cs c = some (decide (cs[(r[j]).toNat] = c)) := fun j hj hw => by
    obtain ⟨m, hm2⟩ := Int.eq_ofNat_of_zero_le (hm _ (List.getElem_mem hj)).1
    simp only [hm2, Int.toNat_natCast] at hw ⊢
    unfold F_impl_ColoursOk_1
    rw [idx_nat hw]
  by_cases hall : ∀ w ∈ r, ∀ (hw : w.toNat < cs.length), cs[w.toNat] ≠ c
  · have key : lp (fun s => F_slices_IndexFunc_int64_l1 r (fun (z : Int) => F_impl_ColoursOk_1 z cs c) s) 0 = some (.inl ()) := by
      refine lp_upto (fun k => (k : Int)) r.length (by simp) (fun k hk => ?_) ?_
      · have hb := hm _ (List.getElem_mem hk)
        have hw : (r[k]).toNat < cs.length := by omega
        simp only [F_slices_IndexFunc_int64_l1]
        rw [if_pos (Int.ofNat_lt.2 hk), idx_nat hk, cal_of (hstep k hk hw), if_neg (by simpa using hall _ (List.getElem_mem hk) hw), ck_of (inI (by omega) (by omega))]; rfl
      · simp only [F_slices_IndexFunc_int64_l1]; rw [if_neg (by omega)]
    rw [bnd_l key]
    unfold F_slices_IndexFunc_int64_k2
    rw [cal_some_eq, decide_eq_false (show ¬ ((0 : Int) ≤ -1) by decide), decide_eq_false (not_not_intro hall)]
  · have hex : ∃ k, ∃ (hk : k < r.length) (hw : (r[k]).toNat < cs.length), cs[(r[k]).toNat] = c := by
      refine Classical.byContradiction fun hn => hall fun w hw hwl e => ?_
      obtain ⟨j, hj, rfl⟩ := List.getElem_of_mem hw
      exact hn ⟨j, hj, hwl, e⟩
    obtain ⟨k, ⟨hk, hw, e⟩, hleast⟩ := least_of hex
    have key : lp (fun s => F_slices_IndexFunc_int64_l1 r (fun (z : Int) => F_impl_ColoursOk_1 z cs c) s) 0 = some (.inr (k : Int)) := by
      refine lp_upto (fun k => (k : Int)) k (by simp) (fun j hj => ?_) ?_
      · have hjl : j < r.length := by omega
        have hb := hm _ (List.getElem_mem hjl)
        have hw : (r[j]).toNat < cs.length := by omega
        have hne : cs[(r[j]).toNat] ≠ c := fun e => by have := hleast j ⟨hjl, hw, e⟩; omega
        simp only [F_slices_IndexFunc_int64_l1]
        rw [if_pos (Int.ofNat_lt.2 hjl), idx_nat hjl, cal_of (hstep j hjl hw), if_neg (by simpa using hne), ck_of (inI (by omega) (by omega))]; rfl
      · simp only [F_slices_IndexFunc_int64_l1]
        rw [if_pos (Int.ofNat_lt.2 hk), idx_nat hk, cal_of (hstep k hk hw), if_pos (by simpa using e)]
    rw [bnd_r key, cal_some_eq, decide_eq_true hall, decide_eq_true (Int.natCast_nonneg k)]
open Classical in
theorem implColoursOk_eq (g : List (List Int)) (cs : List Int) (hgl : g.length ≤ 1048576) (hl : ∀ x ∈ g, x.length ≤ 1048576) (hc : cs.length ≤ 1048576) : F_impl_ColoursOk g cs = some (decide (GOk g ∧ cs.length = g.length ∧ ColOk g cs)) := by
  unfold F_impl_ColoursOk
  rw [cal_of (implGraphOk_eq g hgl hl)]
  by_cases hg : GOk g
  case neg => rw [if_pos (by simp [hg])]; simp [hg]
  rw [if_neg (by simp [hg])]
  by_cases he : cs.length = g.length
  case neg => rw [if_pos (by omega)]; simp [he]
  rw [if_neg (by omega)]
  have hhas : ∀ (k : Nat) (hk : k < cs.length) (hkg : k < g.length), F_slices_ContainsFunc_int64 g[k] (fun (z : Int) => F_impl_ColoursOk_1 z cs cs[k]) = some (decide (¬ ∀ w ∈ g[k], ∀ (hw : w.toNat < cs.length), cs[w.toNat] ≠ cs[k])) :=
    fun k hk hkg => implCol_has cs g[k] cs[k] (hl _ (List.getElem_mem hkg)) (fun w hw => by have := (hg.rows k hkg).1.mem hw; omega)
  have key := lp_for (step := fun i => F_impl_ColoursOk_l1 g cs i) cs.length (fun v => ∀ (h : v < cs.length), (0 ≤ cs[v] ∧ cs[v] ≤ (cs.length : Int) - 1) ∧ ∀ (hv : v < g.length), ∀ w ∈ g[v], ∀ (hw : w.toNat < cs.length), cs[w.toNat] ≠ cs[v]) (ColOk g cs)
    (oT := .inl ()) (oF := .inr false) ⟨fun h k _ => h k, fun h k hk => h k hk hk⟩ (fun k hk hp => ?_) (fun k hk hp => ?_) ?_
  · rw [key, bnd_if]
    by_cases h : ColOk g cs <;> simp [h, hg, he, F_impl_ColoursOk_k2]
  · have hp := hp hk
    have hkg : k < g.length := by omega
    simp only [F_impl_ColoursOk_l1]
    rw [if_pos (Int.ofNat_lt.2 hk), idx_nat hk, ck_of (inI (by omega) (by omega)), cal_of (inRange_eq _ _ _), if_neg (by simp only [hp.1]; simp), idx_nat hkg, cal_of (hhas k hk hkg), if_neg (by
      rw [decide_eq_true_eq]; exact fun h => h (hp.2 hkg)), ck_of (inI (by omega) (by omega))]
  · have hkg : k < g.length := by omega
    simp only [F_impl_ColoursOk_l1]
    rw [if_pos (Int.ofNat_lt.2 hk), idx_nat hk, ck_of (inI (by omega) (by omega)), cal_of (inRange_eq _ _ _)]
    by_cases h : 0 ≤ cs[k] ∧ cs[k] ≤ (cs.length : Int) - 1
    · rw [if_neg (by simp only [h]; simp), idx_nat hkg, cal_of (hhas k hk hkg), if_pos (by
        rw [decide_eq_true_eq]; exact fun h2 => hp fun _ => ⟨h, fun _ => h2⟩)]
    · rw [if_pos (by simpa using h)]
  · simp only [F_impl_ColoursOk_l1]; rw [if_neg (by omega)]
end Go.Proofs.YtadjcnllmkdgiaaDoor

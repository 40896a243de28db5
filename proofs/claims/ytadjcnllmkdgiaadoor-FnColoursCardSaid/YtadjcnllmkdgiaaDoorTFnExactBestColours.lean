/- FnExactBestColours: the plain law. -/
import Derived.Test.YtadjcnllmkdgiaaDoorColour
import Derived.Test.YtadjcnllmkdgiaaDoorLawMarks
import Derived.Test.YtadjcnllmkdgiaaDoorLawGraph
namespace Go.Proofs.YtadjcnllmkdgiaaDoor
open Classical in
noncomputable def resBestColours (g : List (List Int)) : List Int := if GOk g then ints (best (nb g)) else []
theorem resBestColours_small (g : List (List Int)) (hgl : g.length ≤ 1048576) (hl : ∀ x ∈ g, x.length ≤ 1048576) : (resBestColours g).length ≤ 1048576 := by
  unfold resBestColours
  split
  · rw [ints_len, (best_len _).1, nb_len]; exact hgl
  · simp
theorem foldl_set_len (l : List Int) (x : Int) : ∀ o : List Int, (l.foldl (fun (o : List Int) (v : Int) => o.set v.toNat x) o).length = o.length := by
  induction l with
  | nil => intro o; rfl
  | cons v l ih => intro o; rw [List.foldl_cons, ih, List.length_set]
theorem foldl_set_get (l : List Nat) (x : Int) : ∀ (o : List Int) (i : Nat), i < o.length → ((ints l).foldl (fun (o : List Int) (v : Int) => o.set v.toNat x) o)[i]? = if i ∈ l then some x else o[i]? := by
  induction l with
  | nil => intro o i _; simp [ints]
  | cons v l ih =>
    intro o i hi
    show ((ints l).foldl (fun (o : List Int) (v : Int) => o.set v.toNat x) (o.set ((v : Int)).toNat x))[i]? = _
    rw [ih _ _ (by rw [List.length_set]; exact hi), Int.toNat_natCast]
    by_cases h : i ∈ l
    · simp [h]
    · rw [if_neg h, List.getElem?_set]
      by_cases e : v = i
      · subst e; simp [hi]
      · rw [if_neg e, if_neg (by simp [h, Ne.symm e])]
/-- the colours below k told -/
def told (p : List Nat) (k : Nat) : List Int := p.map fun c => if c < k then (c : Int) else 0
theorem told_len (p : List Nat) (k : Nat) : (told p k).length = p.length := by simp [told]
theorem told_step {p : List Nat} {k : Nat} (hp : p.length ≤ 16) : (ints (els (cls p k))).foldl (fun (o : List Int) (v : Int) => o.set v.toNat (k : Int)) (told p k) = told p (k + 1) := by
  refine List.ext_getElem? fun i => ?_
  by_cases hi : i < p.length
  · have hm : i ∈ els (cls p k) ↔ p[i] = k := by rw [mem_els (Nat.lt_of_lt_of_le (cls_lt p k) (pow16 hp)), cls_bit, decide_eq_true_iff, List.getElem?_eq_getElem hi, Option.some.injEq]
    rw [foldl_set_get _ _ _ _ (by rw [told_len]; exact hi)]
    unfold told
    rw [List.getElem?_map, List.getElem?_map, List.getElem?_eq_getElem hi, Option.map_some, Option.map_some]
    by_cases e : p[i] = k
    · rw [if_pos (hm.2 e), if_pos (by omega), e]
    · rw [if_neg (fun h => e (hm.1 h))]
      by_cases e2 : p[i] < k
      · rw [if_pos e2, if_pos (by omega)]
      · rw [if_neg e2, if_neg (by omega)]
  · rw [List.getElem?_eq_none (by rw [foldl_set_len, told_len]; omega), List.getElem?_eq_none (by rw [told_len]; omega)]
theorem implBestColours_eq (g : List (List Int)) (hgl : g.length ≤ 1048576) (hl : ∀ x ∈ g, x.length ≤ 1048576) : F_impl_BestColours g = some (resBestColours g) := by
  unfold F_impl_BestColours resBestColours
  rw [cal_of (implGraphOk_eq g hgl hl)]
  by_cases hg : GOk g
  case neg => rw [if_pos (by simp [hg]), if_neg hg]
  have h16 := hg.n16
  have h1 := hg.n1
  have hnl := nb_len g
  rw [if_neg (by simp [hg]), if_pos hg, mkS_of (Int.natCast_nonneg _) (Int.ofNat_le.2 (by unfold lim; omega)), cal_of (netsOf_eq hg), cal_of (bestClasses_eq (by omega) (fun v h => nb_lt16 hg h) (by omega)), Int.toNat_natCast]
  obtain ⟨hbl, hbc⟩ := best_len (nb g)
  have hch := chrom_le (nb g)
  generalize best (nb g) = p at *
  generalize chrom (nb g) = k at *
  have h0 : List.replicate g.length (0 : Int) = told p 0 := by
    refine List.ext_getElem (by rw [List.length_replicate, told_len]; omega) fun i h1 h2 => ?_
    simp [told]
  have key : lp (fun s => F_impl_BestColours_l1 (bvs (clss p k)) s.1 s.2) (told p 0, 0) = some (.inl (told p k)) := by
    refine lp_nums k (fun c => told p c) (fun c hc => ?_) ?_
    · simp only [F_impl_BestColours_l1]
      have hcl := Nat.lt_of_lt_of_le (cls_lt p c) (pow16 (by omega))
      have hel := els_len_le (cls p c)
      rw [bvs_len, clss_len, if_pos (by omega), idx_bvs (by rw [clss_len]; exact hc), clss_get, cal_of (list_eq hcl)]
      have inner : lp (fun s => F_impl_BestColours_l2 (c : Int) (ints (els (cls p c))) s.1 s.2) (told p c, 0) = some (.inl (told p (c + 1))) := by
        refine lp_fold (ints (els (cls p c))) (fun (o : List Int) (v : Int) => o.set v.toNat (c : Int)) (told p c) (fun o => o.length = p.length) (told_len p c) (fun j hj o ho => ⟨?_, by rw [List.length_set]; exact ho⟩) (fun o ho => ?_)
        · simp only [F_impl_BestColours_l2]
          have hm := els_bit (List.getElem_mem (l := els (cls p c)) (n := j) (by rwa [ints_len] at hj))
          rw [cls_bit, decide_eq_true_iff] at hm
          have hb := (List.getElem?_eq_some_iff.1 hm).1
          rw [ints_len] at hj
          rw [if_pos (by rw [ints_len]; omega), idx_nat (by rw [ints_len]; exact hj), ints_get, idx_nat (by rw [ho]; exact hb), ck_of (inI (by omega) (by omega))]; rfl
        · simp only [F_impl_BestColours_l2]
          rw [if_neg (by omega), ho, told_step (by omega)]
      rw [inner, bnd_inl_eq]
      unfold F_impl_BestColours_k3
      rw [ck_of (inI (by omega) (by omega))]; rfl
    · simp only [F_impl_BestColours_l1]
      rw [bvs_len, clss_len, if_neg (by omega)]
  rw [h0, bnd_l key]
  unfold F_impl_BestColours_k4
  congr 1
  unfold told ints
  refine List.map_congr_left fun c hc => ?_
  rw [if_pos (hbc c hc)]
end Go.Proofs.YtadjcnllmkdgiaaDoor

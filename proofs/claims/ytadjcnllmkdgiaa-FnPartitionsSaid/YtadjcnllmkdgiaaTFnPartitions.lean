/- FnPartitions: the plain law. -/
import Derived.Test.YtadjcnllmkdgiaaPartMath
namespace Go.Proofs.Ytadjcnllmkdgiaa
theorem likeInts_refl (s : List Int) (hs : s.length ≤ 1048576) : F_laws_likeInts s s = some true := by
  unfold F_laws_likeInts
  rw [if_neg (by simp)]
  have : lp (fun q => F_laws_likeInts_l1 s s q) 0 = some (.inl ()) := by
    refine lp_upto (fun k => (k : Int)) s.length rfl (fun k hk => ?_) ?_
    · simp only [F_laws_likeInts_l1]
      rw [if_pos (by omega), idx_nat hk, idx_nat hk, if_neg (by simp), ck_of (inI (by omega) (by omega))]; rfl
    · simp only [F_laws_likeInts_l1]
      rw [if_neg (by omega)]
  rw [bnd_l this]; rfl
open Classical in
theorem T_FnPartitions (code : List (BitVec 8)) (hs : Sz.ok code) : F_laws_FnPartitions code = some true := by
  unfold F_laws_FnPartitions
  rw [cal_of (show F_laws_big code = some (decide (4096 < (code.length : Int))) from rfl)]
  by_cases hb : 4096 < code.length
  · rw [if_pos (by simp; omega)]
  rw [if_neg (by simp; omega)]
  obtain ⟨d, e1, k1⟩ := roll_ex (code := code) (by omega) 806
  obtain ⟨g, d2, e2, hg, hgl, k2⟩ := w6Graph_ex k1 (most := 8) (by omega) (by omega)
  obtain ⟨s1, s2⟩ := gok_smallG hg
  have h1 := hg.n1
  have hH := hg.has
  have hnl := nb_len g
  have hgs : GOk g ∧ g.length ≤ 8 := ⟨hg, by omega⟩
  obtain ⟨eW, _, hWl⟩ := resPartitionsBy_ok hgs
  have hWv : ∀ k (hk : k < (resPartitionsBy g).length), (resPartitionsBy g)[k] = (wk (nb g) k g.length [] : Int) := fun k hk => by
    have h2 := waysF_wk (a := nb g) (k := k) (m := g.length) (L := []) (o := List.replicate (g.length + 1) 0) (by simp)
    rw [← eW] at h2
    have h3 : (List.replicate (g.length + 1) (0 : Int)).getD k 0 = 0 := by
      rw [List.getD_eq_getElem?_getD, List.getElem?_replicate]; split <;> rfl
    rw [h3, Int.zero_add] at h2
    rw [← h2]; simp [hk]
  rw [cal_of e1, cal_of e2]
  dsimp only
  rw [cal_of (implPartitionsBy_eq g s1 s2), ck_of (inI (by omega) (by omega)), if_neg (by omega), cal_of (specPartitionsBy_eq g s1 s2), cal_of (likeInts_refl _ (by omega)), if_neg (by simp), idx_nat (by omega), hWv g.length (by omega), if_neg (by rw [wk_one (by simp)]; simp)]
  have e3 : lp (fun s => F_laws_FnPartitions_l1 (g, d2) (resPartitionsBy g) s) 0 = some (.inl ()) := by
    refine lp_upto (fun k => (k : Int)) (g.length + 1) rfl (fun k hk => ?_) ?_
    · simp only [F_laws_FnPartitions_l1]
      have hiff : 0 < wk (nb g) k g.length [] ↔ chrom (nb g) ≤ k := by
        have := wk_iff (a := nb g) (k := k) (by omega)
        rw [hnl] at this
        rw [this, col_pos hH]
      rw [if_pos (by omega), idx_nat (by omega), cal_of (specChromaticOf_eq g s1 s2), if_pos hg, hWv k (by omega)]
      rw [if_neg (by
        rw [show decide ((0 : Int) < ((wk (nb g) k g.length [] : Nat) : Int)) = decide ((chrom (nb g) : Int) ≤ (k : Int)) from decide_eq_decide.2 (by omega)]
        simp), ck_of (inI (by omega) (by omega))]; rfl
    · simp only [F_laws_FnPartitions_l1]
      rw [if_neg (by omega)]
  rw [bnd_l e3]
  unfold F_laws_FnPartitions_k2
  obtain ⟨l, e4, hl⟩ : ∃ l, lp (fun s => F_laws_FnPartitions_l3 (g, d2) s.1 s.2.1 s.2.2) (d2, ([] : List Int), 0) = some (.inl l) ∧ l.length = g.length := by
    have := lp_ex (step := fun s => F_laws_FnPartitions_l3 (g, d2) s.1 s.2.1 s.2.2) (fun (k : Nat) (a : (List (BitVec 8) × Int × Int) × List Int) => (a.1, a.2, (k : Int))) g.length
      (fun k a => DOk a.1 ∧ a.2.length = k) (fun o => ∃ l, o = .inl l ∧ l.length = g.length) ?_ ?_ g.length 0 (d2, []) (by omega) ⟨k2, rfl⟩
    · obtain ⟨o, e, l, rfl, hl⟩ := this
      exact ⟨l, e, hl⟩
    · rintro k ⟨da, l⟩ hk ⟨hd, hl⟩
      dsimp only at hd hl
      obtain ⟨x, d3, e5, x0, x1, k3⟩ := below_ex hd (n := 5) (by omega)
      simp only [F_laws_FnPartitions_l3]
      rw [if_pos (by omega), cal_of e5]
      dsimp only
      rw [ck_of (inI (by omega) (by omega)), ck_of (inI (by omega) (by omega)), app1_s (by omega), ck_of (inI (by omega) (by omega))]
      exact ⟨(d3, l ++ [x * 7 - 9]), rfl, k3, by simp [hl]⟩
    · rintro ⟨da, l⟩ ⟨hd, hl⟩
      simp only [F_laws_FnPartitions_l3]
      rw [if_neg (by omega)]
      exact ⟨_, rfl, l, rfl, hl⟩
  dsimp only
  rw [bnd_l e4]
  unfold F_laws_FnPartitions_k4
  have hnm := (namesOf_len l).2
  obtain ⟨n1, n2, n3, n4⟩ := names_ok l
  have hm := names_many (l := l) (by omega)
  have hget : ∀ i (h : i < (namesOf l).2.length), (namesOf l).2[i] = ((namesOf l).1.idxOf (l[i]'(by omega)) : Int) := fun i h => by
    have := n1 i (by omega)
    rw [List.getElem?_eq_getElem h] at this
    exact Option.some.inj this
  have eN : F_impl_LeastNames l = some (namesOf l).2 := by rw [impl_LeastNames_eq, if_neg (by omega)]
  rw [cal_of eN, if_neg (by simp only; omega), cal_of (implColoursMany_eq _ (by omega)), cal_of (implColoursMany_eq _ (by omega)), if_neg (by simp [hm])]
  have e6 : lp (fun s => F_laws_FnPartitions_l5 (g, d2) l (namesOf l).2 s) 0 = some (.inl ()) := by
    refine lp_upto (fun k => (k : Int)) g.length rfl (fun k hk => ?_) ?_
    · simp only [F_laws_FnPartitions_l5]
      have e7 : lp (fun s => F_laws_FnPartitions_l6 (g, d2) l (namesOf l).2 (k : Int) s) 0 = some (.inl ()) := by
        refine lp_upto (fun k => (k : Int)) g.length rfl (fun j hj => ?_) ?_
        · simp only [F_laws_FnPartitions_l6]
          have hiff : (namesOf l).2[k]'(by omega) = (namesOf l).2[j]'(by omega) ↔ l[k]'(by omega) = l[j]'(by omega) := by
            rw [hget, hget]
            constructor
            · intro e
              have e' : (namesOf l).1.idxOf (l[k]'(by omega)) = (namesOf l).1.idxOf (l[j]'(by omega)) := by omega
              have ex := List.getElem_idxOf (List.idxOf_lt_length_iff.2 ((n2 _).2 (List.getElem_mem (show k < l.length by omega))))
              have ey := List.getElem_idxOf (List.idxOf_lt_length_iff.2 ((n2 _).2 (List.getElem_mem (show j < l.length by omega))))
              rw [← ex, ← ey]; congr 1
            · intro e; rw [e]
          rw [if_pos (by omega), idx_nat (by omega), idx_nat (by omega), idx_nat (by omega), idx_nat (by omega), if_neg (by
            rw [show decide ((namesOf l).2[k]'(by omega) = (namesOf l).2[j]'(by omega)) = decide (l[k]'(by omega) = l[j]'(by omega)) from decide_eq_decide.2 hiff]
            simp), ck_of (inI (by omega) (by omega))]; rfl
        · simp only [F_laws_FnPartitions_l6]
          rw [if_neg (by omega)]
      rw [if_pos (by omega), bnd_l e7]
      unfold F_laws_FnPartitions_k7
      rw [ck_of (inI (by omega) (by omega))]; rfl
    · simp only [F_laws_FnPartitions_l5]
      rw [if_neg (by omega)]
  rw [bnd_l e6]
  unfold F_laws_FnPartitions_k8
  rw [show (0 : Int) = ((0 : Nat) : Int) from rfl, idx_nat (by omega), hget 0 (by omega)]
  have h0 : (namesOf l).1.idxOf (l[0]'(by omega)) = 0 := by
    have hl0 : l.head? = some (l[0]'(by omega)) := by rw [List.head?_eq_getElem?, List.getElem?_eq_getElem (by omega)]
    rw [hl0] at n4
    cases hc : (namesOf l).1 with
    | nil => rw [hc] at n4; cases n4
    | cons x xs => rw [hc] at n4; rw [← Option.some.inj n4]; simp
  rw [h0]; simp
end Go.Proofs.Ytadjcnllmkdgiaa

/- FnColours: the plain law. -/
import Derived.Test.YtadjcnllmkdgiaaDoorColourMath
namespace Go.Proofs.YtadjcnllmkdgiaaDoor
/-- the vertices by their colours: first those of colour 0, and so on -/
def byCol (b : List Nat) (n k : Nat) : List Nat := (List.range k).flatMap fun c => (List.range n).filter fun v => decide (b.getD v 0 = c)
theorem byCol_mem {b : List Nat} {n k w : Nat} : w ∈ byCol b n k ↔ w < n ∧ b.getD w 0 < k := by
  unfold byCol
  rw [List.mem_flatMap]
  constructor
  · rintro ⟨c, hc, hw⟩
    obtain ⟨h1, h2⟩ := List.mem_filter.1 hw
    have := of_decide_eq_true h2
    exact ⟨List.mem_range.1 h1, by have := List.mem_range.1 hc; omega⟩
  · rintro ⟨h1, h2⟩
    exact ⟨_, List.mem_range.2 h2, List.mem_filter.2 ⟨List.mem_range.2 h1, decide_eq_true rfl⟩⟩
theorem byCol_pair {b : List Nat} {n k : Nat} : (byCol b n k).Pairwise fun x y => x ≠ y ∧ b.getD x 0 ≤ b.getD y 0 := by
  unfold byCol
  rw [List.pairwise_flatMap]
  refine ⟨fun c _ => ?_, List.pairwise_lt_range.imp fun {c d} hcd x hx y hy => ?_⟩
  · refine ((List.nodup_range (n := n)).filter _).imp_of_mem fun {x y} hx hy hne => ⟨hne, ?_⟩
    have h1 := of_decide_eq_true (List.mem_filter.1 hx).2
    have h2 := of_decide_eq_true (List.mem_filter.1 hy).2
    omega
  · have h1 := of_decide_eq_true (List.mem_filter.1 hx).2
    have h2 := of_decide_eq_true (List.mem_filter.1 hy).2
    exact ⟨fun e => by subst e; omega, by omega⟩
theorem byCol_len {b : List Nat} {n k : Nat} (h : ∀ v, v < n → b.getD v 0 < k) : (byCol b n k).length = n := by
  have hnd : (byCol b n k).Nodup := byCol_pair.imp fun h => h.1
  have := ((List.perm_ext_iff_of_nodup hnd (List.nodup_range (n := n))).2 fun w => by
    rw [byCol_mem, List.mem_range]; exact ⟨fun h => h.1, fun hw => ⟨hw, h w hw⟩⟩).length_eq
  rw [this, List.length_range]
theorem byCol_small (b : List Nat) (n : Nat) : ∀ k, (byCol b n k).length ≤ n * k
  | 0 => by simp [byCol]
  | k + 1 => by
    have h1 := byCol_small b n k
    have h2 : ((List.range n).filter fun v => decide (b.getD v 0 = k)).length ≤ n := Nat.le_trans (List.length_filter_le ..) (by simp)
    have e : byCol b n (k + 1) = byCol b n k ++ (List.range n).filter fun v => decide (b.getD v 0 = k) := by
      unfold byCol; rw [List.range_succ, List.flatMap_append]; simp
    rw [e, List.length_append, Nat.mul_add]; omega
theorem byCol_order {b : List Nat} {n k : Nat} (h : ∀ v, v < n → b.getD v 0 < k) : IsOrder n (ints (byCol b n k)) := by
  refine ⟨by rw [ints_len, byCol_len h], fun x hx => ?_, ?_⟩
  · unfold ints at hx
    obtain ⟨w, hw, rfl⟩ := List.mem_map.1 hx
    have := (byCol_mem.1 hw).1; omega
  · unfold ints
    rw [List.nodup_iff_pairwise_ne, List.pairwise_map]
    exact byCol_pair.imp fun h e => h.1 (by omega)
theorem w6Order_ex {d : List (BitVec 8) × Int × Int} (h : DOk d) {g : List (List Int)} (hg : g.length ≤ 16) : ∃ o d', F_laws_w6Order d g = some (o, d') ∧ IsOrder g.length o ∧ DOk d' := by
  have := lp_ex (step := fun s => F_laws_w6Order_l1 g s.1 s.2.1 s.2.2) (fun (k : Nat) (a : (List (BitVec 8) × Int × Int) × List Int) => (a.1, a.2, (k : Int))) g.length
    (fun k a => DOk a.1 ∧ IsOrder k a.2) (fun r => ∃ o d', r = .inl (o, d') ∧ IsOrder g.length o ∧ DOk d') ?_ ?_ g.length 0 (d, []) (by omega) ⟨h, by simp [IsOrder]⟩
  · obtain ⟨r, e, o, d', rfl, ho, hd⟩ := this
    refine ⟨o, d', ?_, ho, hd⟩
    unfold F_laws_w6Order
    have e' : lp (fun s => F_laws_w6Order_l1 g s.1 s.2.1 s.2.2) (d, ([] : List Int), 0) = some (.inl (o, d')) := e
    rw [bnd_l e']; rfl
  · rintro k ⟨da, o⟩ hk ⟨hd, ho⟩
    dsimp only at hd ho
    obtain ⟨x', d1, e1, x0, x1, k1⟩ := below_ex hd (n := (k : Int) + 1) (by omega)
    obtain ⟨x, rfl⟩ := Int.eq_ofNat_of_zero_le x0
    have hol := ho.1
    have hxk : x ≤ k := by omega
    simp only [F_laws_w6Order_l1]
    rw [if_pos (by omega), ck_of (inI (by omega) (by omega)), cal_of e1]
    dsimp only
    rw [slc_of (by omega)]
    have z : ((0 : Int)).toNat = 0 := rfl
    simp only [z, List.drop_zero, Nat.sub_zero, Int.toNat_natCast, List.nil_append]
    have h1 : (o.take x).length = x := by rw [List.length_take]; omega
    have h2 : (List.take (o.length - x) (List.drop x o)) = o.drop x := List.take_of_length_le (by simp)
    rw [app_s (by simp; omega), app1_s (by rw [h1]; omega), slc_of (by omega), h2, app_s (by simp; omega), ck_of (inI (by omega) (by omega))]
    refine ⟨(d1, o.take x ++ [(k : Int)] ++ o.drop x), rfl, k1, ?_⟩
    have hp : (o.take x ++ [(k : Int)] ++ o.drop x).Perm ((k : Int) :: o) := by
      have e : o.take x ++ [(k : Int)] ++ o.drop x = o.take x ++ (k : Int) :: o.drop x := by simp
      rw [e]
      refine List.perm_middle.trans ?_
      rw [List.take_append_drop]
    refine ⟨by rw [hp.length_eq, List.length_cons, hol], fun y hy => ?_, hp.nodup_iff.2 (List.nodup_cons.2 ⟨fun hk' => ?_, ho.2.2⟩)⟩
    · rcases List.mem_cons.1 (hp.mem_iff.1 hy) with rfl | hy
      · omega
      · have := ho.2.1 y hy; omega
    · have := ho.2.1 _ hk'; omega
  · rintro ⟨da, o⟩ ⟨hd, ho⟩
    simp only [F_laws_w6Order_l1]
    rw [if_neg (by omega)]
    exact ⟨_, rfl, o, da, rfl, ho, hd⟩
open Classical in
theorem T_FnColours (code : List (BitVec 8)) (hs : Sz.ok code) : F_laws_FnColours code = some true := by
  unfold F_laws_FnColours
  rw [cal_of (show F_laws_big code = some (decide (4096 < (code.length : Int))) from rfl)]
  by_cases hb : 4096 < code.length
  · rw [if_pos (by simp; omega)]
  rw [if_neg (by simp; omega)]
  obtain ⟨d, e1, k1⟩ := roll_ex (code := code) (by omega) 804
  obtain ⟨g, d2, e2, hg, hgl, k2⟩ := w6Graph_ex k1 (most := 8) (by omega) (by omega)
  obtain ⟨s1, s2⟩ := gok_smallG hg
  have h16 := hg.n16
  have hH := hg.has
  have hnl := nb_len g
  have hch := chrom_le (nb g)
  obtain ⟨hok, hlen⟩ := best_ok hg
  obtain ⟨b1, b2⟩ := best_len (nb g)
  have hbc : resBestColours g = ints (best (nb g)) := by unfold resBestColours; rw [if_pos hg]
  have hm : manyOf (ints (best (nb g))) = (chrom (nb g) : Int) := by
    have q1 := chrom_many hg hlen hok
    have q2 := many_below (cs := ints (best (nb g))) (k := chrom (nb g)) (by omega) fun c hc => by
      unfold ints at hc
      obtain ⟨w, hw, rfl⟩ := List.mem_map.1 hc
      have := b2 w hw; omega
    omega
  obtain ⟨s, e3, hs2, hcl⟩ := bestClique_ex hg
  have hle := clq_chrom hg hs2 hcl
  have hin : ∀ {β : Type} (i : Nat) (hi : i < g.length) (q : Int → Option β), idx (ints (best (nb g))) (i : Int) q = q ((best (nb g)).getD i 0 : Nat) := fun i hi q => by
    rw [idx_nat (by omega), ints_get, show (best (nb g)).getD i 0 = (best (nb g))[i]'(by omega) by simp [show i < (best (nb g)).length by omega]]
  rw [cal_of e1, cal_of e2]
  dsimp only
  rw [cal_of (implBestColours_eq g s1 s2), hbc, cal_of (implChromaticOf_eq g s1 s2), if_pos hg, cal_of (specColoursOk_eq g _ s2 (by omega)), if_neg (by simp [hg, hlen, hok]), cal_of (implColoursOk_eq g _ s1 s2 (by omega)), if_neg (by simp [hg, hlen, hok]), cal_of (implColoursMany_eq _ (by omega)), if_neg (by simp [hm]), cal_of e3, if_neg (by rw [ints_len]; omega)]
  have e4 : lp (fun s => F_laws_FnColours_l1 (ints (best (nb g))) (chrom (nb g) : Int) s.1 s.2) (([] : List Int), 0) = some (.inl (ints (byCol (best (nb g)) g.length (chrom (nb g))))) := by
    refine lp_nums (chrom (nb g)) (fun c => ints (byCol (best (nb g)) g.length c)) (fun c hc => ?_) ?_
    · simp only [F_laws_FnColours_l1]
      have hsm := byCol_small (best (nb g)) g.length c
      have hmul : g.length * c ≤ 16 * 16 := Nat.mul_le_mul h16 (by omega)
      have e5 : lp (fun s => F_laws_FnColours_l2 (ints (best (nb g))) (c : Int) s.1 s.2) (ints (byCol (best (nb g)) g.length c), 0) = some (.inl (ints (byCol (best (nb g)) g.length c ++ (List.range g.length).filter fun v => decide ((best (nb g)).getD v 0 = c)))) := by
        refine lp_upto (fun v => (ints (byCol (best (nb g)) g.length c ++ (List.range v).filter fun v => decide ((best (nb g)).getD v 0 = c)), (v : Int))) g.length (by simp) (fun v hv => ?_) ?_
        · simp only [F_laws_FnColours_l2]
          have hl : ((List.range v).filter fun v => decide ((best (nb g)).getD v 0 = c)).length ≤ v := Nat.le_trans (List.length_filter_le ..) (by simp)
          rw [if_pos (by omega), hin v hv, List.range_succ, List.filter_append, List.filter_cons]
          by_cases h : (best (nb g)).getD v 0 = c
          · rw [if_pos (by omega), app1_s (by rw [ints_len, List.length_append]; omega), ck_of (inI (by omega) (by omega)), ints_snoc, if_pos (decide_eq_true h), List.append_assoc]; rfl
          · rw [if_neg (by omega), ck_of (inI (by omega) (by omega)), if_neg (by simpa using h)]; simp
        · simp only [F_laws_FnColours_l2]
          rw [if_neg (by omega)]
      rw [if_pos (by omega), bnd_l e5]
      unfold F_laws_FnColours_k3
      rw [ck_of (inI (by omega) (by omega))]
      have e : byCol (best (nb g)) g.length (c + 1) = byCol (best (nb g)) g.length c ++ (List.range g.length).filter fun v => decide ((best (nb g)).getD v 0 = c) := by
        unfold byCol; rw [List.range_succ, List.flatMap_append]; simp
      rw [e]; rfl
    · simp only [F_laws_FnColours_l1]
      rw [if_neg (by omega)]
  rw [bnd_l e4]
  unfold F_laws_FnColours_k4
  have hlt : ∀ v, v < g.length → (best (nb g)).getD v 0 < chrom (nb g) := fun v hv => by
    rw [show (best (nb g)).getD v 0 = (best (nb g))[v]'(by omega) by simp [show v < (best (nb g)).length by omega]]
    exact b2 _ (List.getElem_mem _)
  have hO := byCol_order hlt
  obtain ⟨o, d3, e6, ho, k3⟩ := w6Order_ex k2 (g := g) h16
  have r1 : resInTurn g o = colS g o g.length := by unfold resInTurn; rw [if_pos ⟨hg, ho⟩]
  have r2 : resInTurn g (ints (byCol (best (nb g)) g.length (chrom (nb g)))) = colS g (ints (byCol (best (nb g)) g.length (chrom (nb g)))) g.length := by unfold resInTurn; rw [if_pos ⟨hg, hO⟩]
  have hol := ho.1
  have hOl := hO.1
  obtain ⟨t1, t2⟩ := turn_ok hg ho
  obtain ⟨t3, _⟩ := turn_ok hg hO
  have l1 := colS_len g o g.length
  have l2 := colS_len g (ints (byCol (best (nb g)) g.length (chrom (nb g)))) g.length
  have m1 := chrom_many hg l1 t1
  have hm2 : manyOf (colS g (ints (byCol (best (nb g)) g.length (chrom (nb g)))) g.length) = (chrom (nb g) : Int) := by
    have q1 := chrom_many hg l2 t3
    have q2 := many_below (cs := colS g (ints (byCol (best (nb g)) g.length (chrom (nb g)))) g.length) (k := chrom (nb g)) (by omega) fun c hc => by
      obtain ⟨v, hv, rfl⟩ := List.getElem_of_mem hc
      have hvn : v < g.length := by omega
      have h0 := (t3 v hv).1
      obtain ⟨k, hk, ek⟩ := colS_place hO hvn
      have h1 := colS_own hO hk ek hvn
      have h2 := turn_class hg hO (f := fun v => (best (nb g)).getD v 0) (fun u v hE e => by
        obtain ⟨hu, hv, hne, hE2⟩ := hH.rng _ _ hE
        have := (hok v (by omega)).2 hv (u : Int) ((hH.mem v hv _).2 ⟨u, rfl, hE2⟩) (by simp; omega)
        simp only [Int.toNat_natCast] at this
        rw [ints_get, ints_get] at this
        rw [show (best (nb g)).getD u 0 = (best (nb g))[u]'(by omega) by simp [show u < (best (nb g)).length by omega], show (best (nb g)).getD v 0 = (best (nb g))[v]'(by omega) by simp [show v < (best (nb g)).length by omega]] at e
        exact this (by omega)) (fun i j u v hi hj eu ev hij => by
        have hi' : i < (byCol (best (nb g)) g.length (chrom (nb g))).length := by rw [ints_len] at hi; exact hi
        have hj' : j < (byCol (best (nb g)) g.length (chrom (nb g))).length := by rw [ints_len] at hj; exact hj
        have := (List.pairwise_iff_getElem.1 (byCol_pair (b := best (nb g)) (n := g.length) (k := chrom (nb g))) i j hi' hj' hij).2
        rw [ints_get] at eu ev
        rwa [show (byCol (best (nb g)) g.length (chrom (nb g)))[i] = u by omega, show (byCol (best (nb g)) g.length (chrom (nb g)))[j] = v by omega] at this) k hk v ek
      have h3 := hlt v hvn
      rw [hOl] at h1
      rw [show (colS g (ints (byCol (best (nb g)) g.length (chrom (nb g)))) g.length).getD v 0 = (colS g (ints (byCol (best (nb g)) g.length (chrom (nb g)))) g.length)[v] by simp [hv]] at h1
      omega
    omega
  dsimp only
  rw [cal_of e6]
  dsimp only
  rw [cal_of (implInTurn_eq g o s1 s2 (by omega)), r1, cal_of (implInTurn_eq g _ s1 s2 (by omega)), r2, cal_of (specColoursOk_eq g _ s2 (by omega)), if_neg (by simp [hg, l1, t1]), cal_of (specColoursOk_eq g _ s2 (by omega)), if_neg (by simp [hg, l2, t3]), cal_of (specColoursMany_eq _ (by omega)), if_neg (by simp [hm2]), cal_of (specColoursMany_eq _ (by omega)), if_neg (by omega)]
  have e7 : lp (fun s => F_laws_FnColours_l5 (g, d2) (colS g o g.length) s) 0 = some (.inl ()) := by
    refine lp_upto (fun k => (k : Int)) g.length rfl (fun k hk => ?_) ?_
    · simp only [F_laws_FnColours_l5]
      have := t2 k hk
      rw [show (colS g o g.length).getD k 0 = (colS g o g.length)[k]'(by omega) by simp [show k < (colS g o g.length).length by omega]] at this
      rw [if_pos (by omega), idx_nat (by omega), idx_nat hk, if_neg (by omega), ck_of (inI (by omega) (by omega))]; rfl
    · simp only [F_laws_FnColours_l5]
      rw [if_neg (by omega)]
  rw [bnd_l e7]; rfl
end Go.Proofs.YtadjcnllmkdgiaaDoor

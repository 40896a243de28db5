/- Colours: a clique has no more vertices than there are colours; who are coloured in turn. -/
import Derived.Test.YtadjcnllmkdgiaaDoorGDel
import Derived.Test.YtadjcnllmkdgiaaDoorTFnExactInTurn
import Derived.Test.YtadjcnllmkdgiaaDoorTFnExactBestColours
import Derived.Test.YtadjcnllmkdgiaaDoorTFnExactColoursMany
import Derived.Test.YtadjcnllmkdgiaaDoorTFnExactColoursOk
namespace Go.Proofs.YtadjcnllmkdgiaaDoor
theorem i64xor_natB {a b : Nat} (ha : a < 2 ^ 63) (hb : b < 2 ^ 63) : i64xor a b = ((a ^^^ b : Nat) : Int) := by
  have h1 : a ^^^ b < 2 ^ 63 := Nat.xor_lt_two_pow ha hb
  unfold i64xor
  rw [BitVec.toInt_eq_toNat_of_lt]
  · rw [BitVec.toNat_xor, BitVec.ofInt_natCast, BitVec.ofInt_natCast, BitVec.toNat_ofNat, BitVec.toNat_ofNat, Nat.mod_eq_of_lt (by omega), Nat.mod_eq_of_lt (by omega)]
  · rw [BitVec.toNat_xor, BitVec.ofInt_natCast, BitVec.ofInt_natCast, BitVec.toNat_ofNat, BitVec.toNat_ofNat, Nat.mod_eq_of_lt (by omega), Nat.mod_eq_of_lt (by omega)]; omega
theorem l25Set_eqB {s : Nat} (hs : s < 2 ^ 16) : F_spec_l25Set (s : Int) = some (ints (els s)) := by
  unfold F_spec_l25Set
  have key : ∃ o, lp (fun q => F_spec_l25Set_l1 (s : Int) q.1 q.2) (([] : List Int), 0) = some o ∧ o = .inl (ints (els s)) := by
    refine lp_rule (step := fun q => F_spec_l25Set_l1 (s : Int) q.1 q.2) (fun q => ∃ k : Nat, k ≤ 16 ∧ q = (ints ((List.range k).filter fun v => s.testBit v), (k : Int))) (fun q => 16 - q.2.toNat) (fun o => o = .inl (ints (els s))) ?_ _ ⟨0, by omega, rfl⟩
    rintro q ⟨k, hk, rfl⟩
    simp only [F_spec_l25Set_l1]
    rw [grd_of (Int.natCast_nonneg _), Int.toNat_natCast, shr_nat]
    by_cases h : 0 < s >>> k
    · have hk16 : k < 16 := by
        rcases Nat.lt_or_ge k 16 with h2 | h2
        · exact h2
        · rw [Nat.shiftRight_eq_div_pow, Nat.div_eq_of_lt (Nat.lt_of_lt_of_le hs (Nat.pow_le_pow_right (by decide) h2))] at h; omega
      have hl : (ints ((List.range k).filter fun v => s.testBit v)).length ≤ k := by rw [ints_len]; exact Nat.le_trans (List.length_filter_le ..) (by simp)
      rw [if_pos (by omega), grd_of (Int.natCast_nonneg _), ← shr_nat, bit_asked (by omega)]
      by_cases hb : s.testBit k = true
      · rw [if_pos (by rw [if_pos hb]), app1_s (by omega), ck_of (inI (by omega) (by omega))]
        exact .inl ⟨_, rfl, ⟨k + 1, by omega, by rw [ints_snoc, List.range_succ, List.filter_append, List.filter_cons, if_pos hb]; rfl⟩, by show 16 - ((k : Int) + 1).toNat < 16 - (k : Int).toNat; omega⟩
      · rw [if_neg (by rw [if_neg hb]; decide), ck_of (inI (by omega) (by omega))]
        exact .inl ⟨_, rfl, ⟨k + 1, by omega, by rw [List.range_succ, List.filter_append, List.filter_cons, if_neg hb]; simp⟩, by show 16 - ((k : Int) + 1).toNat < 16 - (k : Int).toNat; omega⟩
    · rw [if_neg (by omega)]
      have hlt : s < 2 ^ k := by
        rw [Nat.shiftRight_eq_div_pow] at h
        rcases Nat.lt_or_ge s (2 ^ k) with h2 | h2
        · exact h2
        · exact absurd (Nat.div_pos h2 (Nat.two_pow_pos k)) h
      exact .inr ⟨_, rfl, by rw [els_range hk hlt]⟩
  obtain ⟨o, e, rfl⟩ := key
  rw [bnd_l e]; rfl
/-- the reference's best clique is one -/
theorem bestClique_ex {g : List (List Int)} (hg : GOk g) : ∃ s, F_spec_BestClique g = some (ints (els s)) ∧ s < 2 ^ g.length ∧ clq (nb g) s = true := by
  have h16 := hg.n16
  have hp0 := Nat.two_pow_pos g.length
  have hp := pow16 h16
  have hnl := nb_len g
  have hall : F_spec_l25All g = some ((2 ^ g.length - 1 : Nat) : Int) := l25All_eq h16
  obtain ⟨o, e, s, rfl, hs, hc⟩ : ∃ o, lp (fun q => F_spec_l25Best_l1 g (ints (nb g)) q.1 q.2.1 q.2.2) (true, 0, 0) = some o ∧ ∃ s : Nat, o = .inl (s : Int) ∧ s < 2 ^ g.length ∧ clq (nb g) s = true := by
    refine lp_rule (step := fun q => F_spec_l25Best_l1 g (ints (nb g)) q.1 q.2.1 q.2.2) (fun q => ∃ s k : Nat, q = (true, (s : Int), (k : Int)) ∧ k ≤ 2 ^ g.length ∧ s < 2 ^ g.length ∧ clq (nb g) s = true) (fun q => 2 ^ g.length - q.2.2.toNat) (fun o => ∃ s : Nat, o = .inl (s : Int) ∧ s < 2 ^ g.length ∧ clq (nb g) s = true) ?_ _ ⟨0, 0, rfl, by omega, hp0, ?_⟩
    · rintro q ⟨s, k, rfl, hk, hs, hc⟩
      simp only [F_spec_l25Best_l1]
      rw [cal_of hall]
      by_cases hkl : k < 2 ^ g.length
      case neg => rw [if_neg (by omega)]; exact .inr ⟨_, rfl, s, rfl, hs, hc⟩
      have stay : ∃ q', (some (.inl (true, (s : Int), (k : Int) + 1)) : Option ((Bool × Int × Int) ⊕ (Int ⊕ Int))) = some (.inl q') ∧ (∃ s k : Nat, q' = (true, (s : Int), (k : Int)) ∧ k ≤ 2 ^ g.length ∧ s < 2 ^ g.length ∧ clq (nb g) s = true) ∧ 2 ^ g.length - q'.2.2.toNat < 2 ^ g.length - (k : Int).toNat :=
        ⟨_, rfl, ⟨s, k + 1, rfl, by omega, hs, hc⟩, by show 2 ^ g.length - ((k : Int) + 1).toNat < _; omega⟩
      have take : clq (nb g) k = true → ∃ q', (some (.inl (true, (k : Int), (k : Int) + 1)) : Option ((Bool × Int × Int) ⊕ (Int ⊕ Int))) = some (.inl q') ∧ (∃ s k : Nat, q' = (true, (s : Int), (k : Int)) ∧ k ≤ 2 ^ g.length ∧ s < 2 ^ g.length ∧ clq (nb g) s = true) ∧ 2 ^ g.length - q'.2.2.toNat < 2 ^ g.length - (k : Int).toNat :=
        fun hck => ⟨_, rfl, ⟨k, k + 1, rfl, by omega, hkl, hck⟩, by show 2 ^ g.length - ((k : Int) + 1).toNat < _; omega⟩
      have hclq : F_spec_l25Clique (ints (nb g)) (k : Int) = some (clq (nb g) k) := l25Clique_eq (by omega) (by omega) fun v h => nb_lt16 hg h
      have hx : i64xor (k : Int) (s : Int) = ((k ^^^ s : Nat) : Int) := i64xor_natB (by omega) (by omega)
      have hxl : k ^^^ s < 2 ^ 16 := Nat.xor_lt_two_pow (by omega) (by omega)
      rw [if_pos (by omega), cal_of (l25Many_eq (by omega)), cal_of (l25Many_eq (by omega))]
      by_cases h1 : (card k : Int) < (card s : Int)
      · rw [if_pos h1, ck_of (inI (by omega) (by omega))]; exact .inl stay
      rw [if_neg h1]
      by_cases h2 : (card k : Int) = (card s : Int)
      · have hless : ∃ b, F_spec_l25Less (k : Int) (s : Int) = some b := by
          unfold F_spec_l25Less
          rw [hx, ck_of (inI (by omega) (by omega))]
          exact ⟨_, rfl⟩
        obtain ⟨b, hb⟩ := hless
        rw [if_pos h2, cal_of hb]
        by_cases hb2 : b = true
        · rw [if_neg (by simpa using hb2), if_pos trivial, cal_of hclq]
          by_cases hc2 : clq (nb g) k = true
          · rw [if_pos hc2, ck_of (inI (by omega) (by omega))]; exact .inl (take hc2)
          · rw [if_neg hc2, ck_of (inI (by omega) (by omega))]; exact .inl stay
        · rw [if_pos hb2, ck_of (inI (by omega) (by omega))]; exact .inl stay
      · rw [if_neg h2, if_pos trivial, cal_of hclq]
        by_cases hc2 : clq (nb g) k = true
        · rw [if_pos hc2, ck_of (inI (by omega) (by omega))]; exact .inl (take hc2)
        · rw [if_neg hc2, ck_of (inI (by omega) (by omega))]; exact .inl stay
    · unfold clq each
      rw [List.all_eq_true]; intro v _; simp
  refine ⟨s, ?_, hs, hc⟩
  unfold F_spec_BestClique F_spec_l25Best
  rw [specGraphOk_eq g (gok_smallG hg).2, cal_some_eq, if_neg (by simp [hg]), cal_of (l25Bits_eq hg), bnd_l e]
  unfold F_spec_l25Best_k2
  rw [cal_some_eq, cal_of (l25Set_eqB (by omega))]
/-- a clique has no more vertices than there are colours -/
theorem clq_chrom {g : List (List Int)} (hg : GOk g) {s : Nat} (hs : s < 2 ^ g.length) (hc : clq (nb g) s = true) : (els s).length ≤ chrom (nb g) := by
  have h16 := hg.n16
  have hp := pow16 h16
  have hnl := nb_len g
  have hA := nbs_sym hg
  obtain ⟨f, hf1, hf2⟩ := chrom_le_iff.1 (Nat.le_refl (chrom (nb g)))
  rw [hnl] at hf1 hf2
  have hadj : ∀ u v, u ∈ els s → v ∈ els s → u < v → ((nb g).getD v 0).testBit u = true := by
    intro u v hu hv huv
    have hvn := bit_lt hs ((mem_els (by omega)).1 hv)
    unfold clq each at hc
    rw [List.all_eq_true] at hc
    have := hc v (List.mem_range.2 (by omega))
    have hvb := (mem_els (n := s) (by omega)).1 hv
    have hub := (mem_els (n := s) (by omega)).1 hu
    rw [hvb] at this
    simp only [Bool.not_true, Bool.false_or, beq_iff_eq] at this
    have h2 := congrArg (fun q => q.testBit u) this
    simp only [sdiff_bit, Nat.testBit_two_pow, hub, Bool.true_and] at h2
    rw [decide_eq_false (by omega)] at h2
    simpa using h2
  have hnd : ((els s).map fun v => (f v : Int)).Nodup := by
    rw [List.nodup_iff_pairwise_ne, List.pairwise_map]
    refine (els_sorted s).imp_of_mem fun {u v} hu hv huv e => ?_
    exact hf2 u v huv (bit_lt hs ((mem_els (by omega)).1 hv)) (hadj u v hu hv huv) (by omega)
  have := len_le_sub (m := ints (List.range (chrom (nb g)))) hnd fun x hx => by
    obtain ⟨v, hv, rfl⟩ := List.mem_map.1 hx
    unfold ints
    exact List.mem_map.2 ⟨f v, List.mem_range.2 (hf1 v (bit_lt hs ((mem_els (by omega)).1 hv))), rfl⟩
  rw [List.length_map, ints_len, List.length_range] at this
  exact this
/-- colours that no edge has twice are as many as the least number, or more -/
theorem chrom_many {g : List (List Int)} (hg : GOk g) {cs : List Int} (hl : cs.length = g.length) (hc : ColOk g cs) : (chrom (nb g) : Int) ≤ manyOf cs := by
  have h16 := hg.n16
  have hnl := nb_len g
  have hH := hg.has
  unfold manyOf
  rw [if_neg (by omega)]
  have hm : ∀ v, v < g.length → cs.getD v 0 ∈ cpt (srt cs) := fun v hv => by
    rw [mem_cpt, mem_srt, show cs.getD v 0 = cs[v]'(by omega) by simp [show v < cs.length by omega]]
    exact List.getElem_mem _
  have : chrom (nb g) ≤ (cpt (srt cs)).length := by
    refine chrom_le_iff.2 ⟨fun v => (cpt (srt cs)).idxOf (cs.getD v 0), fun v hv => ?_, fun u v huv hv hb => ?_⟩
    · exact List.idxOf_lt_length_iff.2 (hm v (by omega))
    · intro e
      have hu' := hm u (by omega)
      have hv' := hm v (by omega)
      have ex := List.getElem_idxOf (List.idxOf_lt_length_iff.2 hu')
      have ey := List.getElem_idxOf (List.idxOf_lt_length_iff.2 hv')
      have e2 : cs.getD u 0 = cs.getD v 0 := by rw [← ex, ← ey]; congr 1
      have hE := (hH.bit (show v < g.length by omega)).1 hb
      have hmem := (hH.mem v (show v < g.length by omega) (u : Int)).2 ⟨u, rfl, hE⟩
      refine (hc v (by omega)).2 (by omega) (u : Int) hmem (by simp; omega) ?_
      simp only [Int.toNat_natCast]
      rw [show cs.getD u 0 = cs[u]'(by omega) by simp [show u < cs.length by omega], show cs.getD v 0 = cs[v]'(by omega) by simp [show v < cs.length by omega]] at e2
      exact e2
  omega
theorem many_below {cs : List Int} {k : Nat} (hl : cs.length ≤ 16) (h : ∀ c ∈ cs, 0 ≤ c ∧ c < k) : manyOf cs ≤ (k : Int) := by
  unfold manyOf
  rw [if_neg (by omega)]
  have := len_le_sub (m := ints (List.range k)) (cpt_nodup (srt_sorted cs)) fun x hx => by
    have hb := h x (mem_srt.1 (mem_cpt.1 hx))
    unfold ints
    exact List.mem_map.2 ⟨x.toNat, List.mem_range.2 (by omega), by omega⟩
  rw [ints_len, List.length_range] at this
  omega
theorem best_ok {g : List (List Int)} (hg : GOk g) : ColOk g (ints (best (nb g))) ∧ (ints (best (nb g))).length = g.length := by
  have hnl := nb_len g
  have hH := hg.has
  obtain ⟨b1, b2⟩ := best_len (nb g)
  have hch := chrom_le (nb g)
  have hP := search_proper (a := nb g) (k := chrom (nb g)) (p := []) (u := 0) (l := best (nb g)) ⟨fun v hv => by simp at hv, fun u v _ hv => by simp at hv⟩ (best_eq (nb g))
  rw [b1, hnl] at hP
  have hb : ∀ v (h : v < (best (nb g)).length), (best (nb g)).getD v 0 = (best (nb g))[v] := fun v h => by simp [h]
  refine ⟨fun v hv => ⟨?_, fun hvg w hw hwl => ?_⟩, by rw [ints_len, b1, hnl]⟩
  · rw [ints_len] at hv
    have := b2 _ (List.getElem_mem hv)
    have hll := ints_len (best (nb g))
    rw [ints_get]; omega
  · rw [ints_len] at hv hwl
    obtain ⟨u, rfl, hE⟩ := (hH.mem v hvg w).1 hw
    simp only [Int.toNat_natCast] at hwl ⊢
    rw [ints_get, ints_get]
    obtain ⟨_, hun, hne, hE2⟩ := hH.rng _ _ hE
    intro e
    have e' : (best (nb g)).getD u 0 = (best (nb g)).getD v 0 := by rw [hb u hwl, hb v hv]; omega
    rcases Nat.lt_or_gt_of_ne hne with q | q
    · exact hP.2 v u q hun ((hH.bit hun).2 hE2) e'.symm
    · exact hP.2 u v q hvg ((hH.bit hvg).2 hE) e'
section
variable {g : List (List Int)} {o : List Int}
theorem colS_step {k w u : Nat} (hk : k < o.length) (hw : o[k] = (w : Int)) (hwn : w < g.length) : (colS g o (k + 1)).getD u 0 = if w = u then (mex (nc g (colS g o k) w) : Int) else (colS g o k).getD u 0 := by
  have hl := colS_len g o k
  have eo : o.getD k 0 = (w : Int) := by rw [getD_at hk, hw]
  rw [colS, eo, Int.toNat_natCast, List.getD_eq_getElem?_getD, List.getElem?_set]
  by_cases e : w = u
  · rw [if_pos e, if_pos (by omega), if_pos e]; rfl
  · rw [if_neg e, if_neg e, List.getD_eq_getElem?_getD]
theorem order_at (ho : IsOrder g.length o) {k : Nat} (hk : k < o.length) : ∃ w : Nat, o[k] = (w : Int) ∧ w < g.length := by
  have hb := ho.2.1 _ (List.getElem_mem hk)
  exact ⟨o[k].toNat, by omega, by omega⟩
/-- who has been coloured keeps the colour -/
theorem colS_keep (ho : IsOrder g.length o) {k u : Nat} (hu : (u : Int) ∈ o.take k) : ∀ d, k + d ≤ o.length → (colS g o (k + d)).getD u 0 = (colS g o k).getD u 0
  | 0, _ => rfl
  | d + 1, h => by
    obtain ⟨w, hw, hwn⟩ := order_at ho (k := k + d) (by omega)
    rw [← Nat.add_assoc, colS_step (by omega) hw hwn, if_neg, colS_keep ho hu d (by omega)]
    intro e
    subst e
    obtain ⟨i, hi, e2⟩ := List.getElem_of_mem hu
    rw [List.getElem_take] at e2
    rw [List.length_take] at hi
    have := (List.getElem_inj (h₀ := (by omega : i < o.length)) (h₁ := (by omega : k + d < o.length)) ho.2.2).1 (e2.trans hw.symm)
    omega
/-- a vertex's colour: the least that none of its neighbours had -/
theorem colS_own (ho : IsOrder g.length o) {k w : Nat} (hk : k < o.length) (hw : o[k] = (w : Int)) (hwn : w < g.length) : (colS g o o.length).getD w 0 = (mex (nc g (colS g o k) w) : Int) := by
  have hm : (w : Int) ∈ o.take (k + 1) := by rw [take_succ_of hk, hw]; simp
  have := colS_keep ho hm (o.length - (k + 1)) (by omega)
  rw [show k + 1 + (o.length - (k + 1)) = o.length by omega] at this
  rw [this, colS_step hk hw hwn, if_pos rfl]
theorem colS_place (ho : IsOrder g.length o) {u : Nat} (hu : u < g.length) : ∃ k, ∃ hk : k < o.length, o[k] = (u : Int) := by
  have hm : (u : Int) ∈ o := by
    have hsub : ints (List.range g.length) = ints (List.range g.length) := rfl
    rcases Classical.em ((u : Int) ∈ o) with h | h
    · exact h
    · exfalso
      have hnd : ((u : Int) :: o).Nodup := List.nodup_cons.2 ⟨h, ho.2.2⟩
      have := len_le_sub (m := ints (List.range g.length)) hnd fun x hx => by
        unfold ints
        rcases List.mem_cons.1 hx with rfl | hx
        · exact List.mem_map.2 ⟨u, List.mem_range.2 hu, rfl⟩
        · have hb := ho.2.1 x hx
          exact List.mem_map.2 ⟨x.toNat, List.mem_range.2 (by omega), by omega⟩
      rw [List.length_cons, ints_len, List.length_range, ho.1] at this
      omega
  obtain ⟨k, hk, e⟩ := List.getElem_of_mem hm
  exact ⟨k, hk, e⟩
/-- what they who are coloured in turn have -/
theorem turn_ok (hg : GOk g) (ho : IsOrder g.length o) : ColOk g (colS g o g.length) ∧ (∀ v (h : v < g.length), (colS g o g.length).getD v 0 ≤ g[v].length) := by
  have hH := hg.has
  have hol := ho.1
  have hfin : ∀ v, v < g.length → ∃ k, ∃ hk : k < o.length, o[k] = (v : Int) ∧ (colS g o g.length).getD v 0 = (mex (nc g (colS g o k) v) : Int) := fun v hv => by
    obtain ⟨k, hk, e⟩ := colS_place ho hv
    exact ⟨k, hk, e, by rw [← hol]; exact colS_own ho hk e hv⟩
  have hncl : ∀ v (h : v < g.length) (cs : List Int), (nc g cs v).length = g[v].length := fun v h cs => by
    unfold nc; rw [List.length_map, show g.getD v [] = g[v] by simp [h]]
  have hlen := colS_len g o g.length
  -- the later of two neighbours took another colour
  have later : ∀ u v k j : Nat, (hk : k < o.length) → (hj : j < o.length) → o[k] = (u : Int) → o[j] = (v : Int) → j < k → u < g.length → v < g.length → Ed g u v → (colS g o g.length).getD u 0 ≠ (colS g o g.length).getD v 0 := by
    intro u v k j hk hj eu ev hjk hu hv hE e
    have h1 : (colS g o g.length).getD u 0 = (mex (nc g (colS g o k) u) : Int) := by rw [← hol]; exact colS_own ho hk eu hu
    have hm : (v : Int) ∈ o.take k := List.mem_take_iff_getElem.2 ⟨j, by omega, ev⟩
    have h2 : (colS g o g.length).getD v 0 = (colS g o k).getD v 0 := by
      have := colS_keep ho hm (o.length - k) (by omega)
      rw [show k + (o.length - k) = o.length by omega, hol] at this
      exact this
    refine mex_not (nc g (colS g o k) u) ?_
    rw [← h1, e, h2]
    unfold nc
    rw [show g.getD u [] = g[u] by simp [hu]]
    exact List.mem_map.2 ⟨(v : Int), (hH.mem u hu _).2 ⟨v, rfl, hE⟩, by simp⟩
  refine ⟨fun v hv => ⟨?_, fun hvg w hw hwl => ?_⟩, fun v hv => ?_⟩
  · rw [hlen] at hv
    have := (colS_at hg ho g.length (by omega) v hv).1 (by
      obtain ⟨k, hk, e⟩ := colS_place ho hv
      rw [← hol, List.take_length, ← e]; exact List.getElem_mem hk)
    rw [show (colS g o g.length).getD v 0 = (colS g o g.length)[v]'(by omega) by simp [show v < (colS g o g.length).length by omega]] at this
    rw [hlen]; omega
  · obtain ⟨u, rfl, hE⟩ := (hH.mem v hvg w).1 hw
    obtain ⟨_, hun, hne, hE2⟩ := hH.rng _ _ hE
    simp only [Int.toNat_natCast] at hwl ⊢
    obtain ⟨k, hk, ek⟩ := colS_place ho hvg
    obtain ⟨j, hj, ej⟩ := colS_place ho hun
    rw [show (colS g o g.length)[u] = (colS g o g.length).getD u 0 by simp [hwl], show (colS g o g.length)[v] = (colS g o g.length).getD v 0 by simp [hv]]
    rcases Nat.lt_trichotomy j k with q | q | q
    · exact fun e => later v u k j hk hj ek ej q hvg hun hE e.symm
    · subst q; rw [ek] at ej; exact absurd (by omega) hne
    · exact later u v j k hj hk ej ek q hun hvg hE2
  · obtain ⟨k, hk, e, h1⟩ := hfin v hv
    have := mex_le (nc g (colS g o k) v)
    rw [hncl v hv] at this
    rw [h1]; omega
/-- in the turn of right classes none takes a colour above its own -/
theorem turn_class (hg : GOk g) (ho : IsOrder g.length o) {f : Nat → Nat} (hf : ∀ u v, Ed g u v → f u ≠ f v) (hs : ∀ i j u v : Nat, (hi : i < o.length) → (hj : j < o.length) → o[i] = (u : Int) → o[j] = (v : Int) → i < j → f u ≤ f v) :
    ∀ k, (hk : k < o.length) → ∀ w : Nat, o[k] = (w : Int) → mex (nc g (colS g o k) w) ≤ f w := by
  have hH := hg.has
  intro k
  induction k using Nat.strongRecOn with
  | _ k ih =>
    intro hk w hw
    have hwn : w < g.length := by obtain ⟨w', e, h⟩ := order_at ho hk; omega
    rcases Nat.lt_or_ge (f w) (mex (nc g (colS g o k) w)) with h | h
    · exfalso
      have hm := mex_least h
      unfold nc at hm
      rw [show g.getD w [] = g[w] by simp [hwn]] at hm
      obtain ⟨y, hy, e⟩ := List.mem_map.1 hm
      obtain ⟨u, rfl, hE⟩ := (hH.mem w hwn y).1 hy
      have hun := (hH.rng _ _ hE).2.1
      simp only [Int.toNat_natCast] at e
      by_cases hin : (u : Int) ∈ o.take k
      · obtain ⟨j, hj, ej⟩ := List.mem_take_iff_getElem.1 hin
        have hjk : j < k ∧ j < o.length := by omega
        have h1 := ih j hjk.1 hjk.2 u ej
        have h2 : (colS g o k).getD u 0 = (mex (nc g (colS g o j) u) : Int) := by
          have hm2 : (u : Int) ∈ o.take (j + 1) := by rw [take_succ_of hjk.2, ej]; simp
          have := colS_keep ho hm2 (k - (j + 1)) (by omega)
          rw [show j + 1 + (k - (j + 1)) = k by omega] at this
          rw [this, colS_step hjk.2 ej hun, if_pos rfl]
        have h3 := hs j k u w hjk.2 hk ej hw hjk.1
        have h4 := hf w u hE
        omega
      · have := (colS_at hg ho k (by omega) u hun).2 hin
        omega
    · exact h
end
end Go.Proofs.YtadjcnllmkdgiaaDoor

/- FnMatchings: the plain law. -/
import Derived.Test.YtadjcnllmkdgiaaDoorParts
import Derived.Test.YtadjcnllmkdgiaaDoorLawGraph
import Derived.Test.YtadjcnllmkdgiaaDoorGDel
import Derived.Test.YtadjcnllmkdgiaaDoorMatchMath
namespace Go.Proofs.YtadjcnllmkdgiaaDoor
theorem els_allM {n : Nat} (hn : n ≤ 16) : els (2 ^ n - 1) = List.range n := by
  have h0 := Nat.two_pow_pos n
  rw [els_range hn (by omega)]
  refine List.filter_eq_self.2 fun v hv => ?_
  rw [Nat.testBit_two_pow_sub_one]; simpa using List.mem_range.1 hv
open Classical in
/-- the matchings of a graph by its edges -/
noncomputable def mg (E : Nat → Nat → Prop) (p : Bool) (l : List Nat) : Nat := mt (fun x y => decide (E x y)) p l
open Classical in
theorem tabv_mg {g : List (List Int)} {n : Nat} {E : Nat → Nat → Prop} (h : Has g n E) (h16 : n ≤ 16) (p : Bool) : tabv (nb g) 1 (ofC p) (2 ^ n - 1) = (mg E p (List.range n) : Int) := by
  have hp := Nat.two_pow_pos n
  have h2 : 2 ^ n ≤ 2 ^ 16 := Nat.pow_le_pow_right (by decide) h16
  rw [tabv_mt (by omega), els_allM h16, mg]
  congr 1
  refine mt_congr rfl fun x hx y hy => ?_
  rw [Bool.eq_iff_iff, decide_eq_true_iff]
  exact h.bit (List.mem_range.1 hx)
open Classical in
theorem many_matchings {g : List (List Int)} {n : Nat} {E : Nat → Nat → Prop} (h : Has g n E) (h1 : 1 ≤ n) (h16 : n ≤ 16) : F_impl_MatchingsMany g = some (mg E false (List.range n) : Int) ∧ F_impl_PerfectMany g = some (mg E true (List.range n) : Int) := by
  have hg := h.gok h1 h16
  obtain ⟨s1, s2⟩ := gok_smallG hg
  rw [implMatchingsMany_eq g s1 s2, implPerfectMany_eq g s1 s2, if_pos hg, if_pos hg, h.len, tabv_mg h h16, tabv_mg h h16]
  exact ⟨rfl, rfl⟩
open Classical in
theorem w6Has_eq {s : List Int} (x : Int) (hs : s.length ≤ 1048576) : F_laws_w6Has s x = some (decide (x ∈ s)) := by
  unfold F_laws_w6Has
  have key : lp (fun q => F_laws_w6Has_l1 s x q) 0 = some (if x ∈ s then .inr true else .inl ()) := by
    by_cases hx : x ∈ s
    · rw [if_pos hx]
      have := lp_rule (step := fun q => F_laws_w6Has_l1 s x q) (fun q => ∃ k : Nat, q = (k : Int) ∧ k ≤ s.length ∧ x ∈ s.drop k) (fun q => s.length - q.toNat) (fun o => o = .inr true) ?_ 0 ⟨0, rfl, Nat.zero_le _, by simpa using hx⟩
      · obtain ⟨o, e, rfl⟩ := this; exact e
      · rintro q ⟨k, rfl, hk, hm⟩
        simp only [F_laws_w6Has_l1]
        have hkl : k < s.length := by
          rcases Nat.lt_or_ge k s.length with h | h
          · exact h
          · rw [List.drop_eq_nil_of_le h] at hm; cases hm
        rw [List.drop_eq_getElem_cons hkl] at hm
        rw [if_pos (by omega), idx_nat hkl]
        by_cases e : s[k] = x
        · rw [if_pos e]; exact .inr ⟨_, rfl, rfl⟩
        · rw [if_neg e, ck_of (inI (by omega) (by omega))]
          refine .inl ⟨_, rfl, ⟨k + 1, by omega, by omega, ?_⟩, by omega⟩
          rcases List.mem_cons.1 hm with h | h
          · exact absurd h.symm e
          · exact h
    · rw [if_neg hx]
      refine lp_upto (fun k => (k : Int)) s.length rfl (fun k hk => ?_) ?_
      · simp only [F_laws_w6Has_l1]
        rw [if_pos (by omega), idx_nat hk, if_neg (fun e => hx (by rw [← e]; exact List.getElem_mem hk)), ck_of (inI (by omega) (by omega))]; rfl
      · simp only [F_laws_w6Has_l1]
        rw [if_neg (by omega)]
  rw [key]
  by_cases hx : x ∈ s
  · rw [if_pos hx, bnd_inr_eq]; simp [hx]
  · rw [if_neg hx, bnd_inl_eq]; unfold F_laws_w6Has_k2; simp [hx]
theorem w6Rest_eq {g : List (List Int)} (hg : g.length ≤ 16) (u v : Nat) : F_laws_w6Rest g [(u : Int), (v : Int)] = some (ints ((List.range g.length).filter fun w => decide (w ≠ u ∧ w ≠ v))) := by
  unfold F_laws_w6Rest
  have key : lp (fun s => F_laws_w6Rest_l1 g [(u : Int), (v : Int)] s.1 s.2) (([] : List Int), 0) = some (.inl (ints ((List.range g.length).filter fun w => decide (w ≠ u ∧ w ≠ v)))) := by
    refine lp_nums g.length (fun k => ints ((List.range k).filter fun w => decide (w ≠ u ∧ w ≠ v))) (fun k hk => ?_) ?_
    · simp only [F_laws_w6Rest_l1]
      have hl : (ints ((List.range k).filter fun w => decide (w ≠ u ∧ w ≠ v))).length ≤ k := by rw [ints_len]; exact Nat.le_trans (List.length_filter_le ..) (by simp)
      rw [if_pos (by omega), cal_of (w6Has_eq _ (by simp)), List.range_succ, List.filter_append]
      by_cases h : k ≠ u ∧ k ≠ v
      · rw [if_pos (by simp; omega), app1_s (by omega), ck_of (inI (by omega) (by omega)), ints_snoc, List.filter_cons, if_pos (decide_eq_true h)]; rfl
      · rw [if_neg (by simp; omega), ck_of (inI (by omega) (by omega)), List.filter_cons, if_neg (by simpa using h)]; simp
    · simp only [F_laws_w6Rest_l1]
      rw [if_neg (by omega)]
  rw [bnd_l key]; rfl
theorem w6Set_ex {d : List (BitVec 8) × Int × Int} (h : DOk d) {g : List (List Int)} (hg : g.length ≤ 16) : ∃ s d', F_laws_w6Set d g = some (s, d') ∧ s.length ≤ 16 ∧ DOk d' := by
  have := lp_ex (step := fun s => F_laws_w6Set_l1 g s.1 s.2.1 s.2.2) (fun (k : Nat) (a : (List (BitVec 8) × Int × Int) × List Int) => (a.1, a.2, (k : Int))) g.length
    (fun k a => DOk a.1 ∧ a.2.length ≤ k) (fun o => ∃ s d', o = .inl (s, d') ∧ s.length ≤ 16 ∧ DOk d') ?_ ?_ g.length 0 (d, []) (by omega) ⟨h, by simp⟩
  · obtain ⟨o, e, s, d', rfl, hs, hd⟩ := this
    refine ⟨s, d', ?_, hs, hd⟩
    unfold F_laws_w6Set
    have e' : lp (fun s => F_laws_w6Set_l1 g s.1 s.2.1 s.2.2) (d, ([] : List Int), 0) = some (.inl (s, d')) := e
    rw [bnd_l e']; rfl
  · rintro k ⟨da, s⟩ hk ⟨hd, hs⟩
    dsimp only at hd hs
    obtain ⟨x, d1, e1, x0, x1, k1⟩ := below_ex hd (n := 2) (by omega)
    simp only [F_laws_w6Set_l1]
    rw [if_pos (by omega), cal_of e1]
    dsimp only
    by_cases hx : x = 0
    · rw [if_pos hx, app1_s (by omega), ck_of (inI (by omega) (by omega))]
      exact ⟨(d1, s ++ [(k : Int)]), rfl, k1, by simp; omega⟩
    · rw [if_neg hx, ck_of (inI (by omega) (by omega))]
      exact ⟨(d1, s), rfl, k1, by show s.length ≤ k + 1; omega⟩
  · rintro ⟨da, s⟩ ⟨hd, hs⟩
    dsimp only at hd hs
    simp only [F_laws_w6Set_l1]
    rw [if_neg (by omega)]
    exact ⟨_, rfl, s, da, rfl, by omega, hd⟩
theorem mg_bound {g : List (List Int)} {n : Nat} {E : Nat → Nat → Prop} (h : Has g n E) (h16 : n ≤ 16) (p : Bool) : mg E p (List.range n) ≤ 20922789888000 := by
  have hp := Nat.two_pow_pos n
  have h2 : 2 ^ n ≤ 2 ^ 16 := Nat.pow_le_pow_right (by decide) h16
  have := (tabv_small (nb g) (ofC p) (fun w l h0 hl => ofC_ok p w l h0 hl) (s := 2 ^ n - 1) (by omega)).2
  rw [tabv_mg h h16] at this; omega
open Classical in
/-- the graph of some vertices: what its matchings are -/
theorem mg_of {E : Nat → Nat → Prop} {p : Bool} {L : List Nat} (hn : L.Nodup) : mg (fun i j => i < L.length ∧ j < L.length ∧ E (L.getD i 0) (L.getD j 0)) p (List.range L.length) = mg E p L := by
  have hL : (List.range L.length).map (fun i => L.getD i 0) = L := by
    refine List.ext_getElem (by simp) fun i h1 h2 => ?_
    simp [show i < L.length by simpa using h1]
  have hm := mt_map (E := fun x y => decide (E x y)) (p := p) (fun i => L.getD i 0) (n := L.length) (l := List.range L.length) (by simp) (fun i hi j hj e => by
    have hi' := List.mem_range.1 hi
    have hj' := List.mem_range.1 hj
    simp only [List.getD_eq_getElem?_getD, List.getElem?_eq_getElem hi', List.getElem?_eq_getElem hj', Option.getD_some] at e
    exact (List.getElem_inj hn).1 e)
  rw [hL] at hm
  unfold mg
  rw [hm]
  refine mt_congr rfl fun i hi j hj => decide_eq_decide.2 ?_
  exact ⟨fun h => h.2.2, fun h => ⟨List.mem_range.1 hi, List.mem_range.1 hj, h⟩⟩
open Classical in
theorem mg_cut {E : Nat → Nat → Prop} {p : Bool} {n u v : Nat} (hs : ∀ x y, E x y → E y x) (huv : u ≠ v) (hu : u < n) (hv : v < n) (he : E u v) :
    mg E p (List.range n) = mg (fun a b => E a b ∧ ¬ (a = u ∧ b = v) ∧ ¬ (a = v ∧ b = u)) p (List.range n) + mg E p ((List.range n).filter fun w => decide (w ≠ u ∧ w ≠ v)) := by
  have h := mt_cut (E := fun x y => decide (E x y)) (E' := fun a b => decide (E a b ∧ ¬ (a = u ∧ b = v) ∧ ¬ (a = v ∧ b = u))) (p := p) huv (fun x y => decide_eq_decide.2 ⟨hs x y, hs y x⟩) (decide_eq_true he) (fun x y => by
    rw [Bool.eq_iff_iff]; simp) (n := n) (l := List.range n) (by simp) List.nodup_range
  rw [if_pos ⟨List.mem_range.2 hu, List.mem_range.2 hv⟩] at h
  have hl : ((List.range n).erase u).erase v = (List.range n).filter fun w => decide (w ≠ u ∧ w ≠ v) := by
    refine sorted_ext ((List.pairwise_lt_range.sublist List.erase_sublist).sublist List.erase_sublist) (List.pairwise_lt_range.filter _) fun x => ?_
    rw [(List.nodup_range.erase u).mem_erase_iff, List.nodup_range.mem_erase_iff, List.mem_filter, decide_eq_true_iff]
    constructor
    · rintro ⟨h1, h2, h3⟩; exact ⟨h3, h2, h1⟩
    · rintro ⟨h1, h2, h3⟩; exact ⟨h3, h2, h1⟩
  rw [hl] at h
  unfold mg
  rw [h]
  refine congrArg (fun q => q + mt (fun x y => decide (E x y)) p ((List.range n).filter fun w => decide (w ≠ u ∧ w ≠ v))) ?_
  exact mt_congr rfl fun x _ y _ => decide_eq_decide.2 Iff.rfl
open Classical in
theorem T_FnMatchings (code : List (BitVec 8)) (hs : Sz.ok code) : F_laws_FnMatchings code = some true := by
  unfold F_laws_FnMatchings
  rw [cal_of (show F_laws_big code = some (decide (4096 < (code.length : Int))) from rfl)]
  by_cases hb : 4096 < code.length
  · rw [if_pos (by simp; omega)]
  rw [if_neg (by simp; omega)]
  obtain ⟨d, e1, k1⟩ := roll_ex (code := code) (by omega) 809
  obtain ⟨g, d2, e2, hg, hgl, k2⟩ := w6Graph_ex k1 (most := 8) (by omega) (by omega)
  obtain ⟨s1, s2⟩ := gok_smallG hg
  have h1 := hg.n1
  have h16 := hg.n16
  have hH := hg.has
  obtain ⟨e3, e4⟩ := many_matchings hH h1 h16
  obtain ⟨e5, hel⟩ := edgesOf_ex hg
  have hp0 := Nat.two_pow_pos g.length
  have hp16 : 2 ^ g.length ≤ 2 ^ 16 := Nat.pow_le_pow_right (by decide) h16
  have hbest : ((resBestMatch g).length : Int) = mst (nb g) (2 ^ g.length - 1) := by
    unfold resBestMatch
    rw [if_pos hg, edges_grp hg]
    have := best_lenB (a := nb g) (n := g.length) h16 (2 ^ g.length - 1) [] (by omega)
    simp only [List.length_nil] at this
    unfold allB at this
    omega
  have hcard : card (2 ^ g.length - 1) = g.length := by unfold card; rw [els_allM h16, List.length_range]
  have hperf := perfect_iff (a := nb g) (s := 2 ^ g.length - 1) (by omega)
  rw [tabv_mg hH h16, hcard] at hperf
  have hmb := mst_bound (a := nb g) (2 ^ g.length - 1)
  have hmc := mst_card (a := nb g) (s := 2 ^ g.length - 1) (by omega)
  rw [hcard] at hmc
  have hle : mg (Ed g) true (List.range g.length) ≤ mg (Ed g) false (List.range g.length) := mt_le _ rfl
  rw [cal_of e1, cal_of e2]
  dsimp only
  rw [cal_of e3, cal_of e4, cal_of (specBestMatch_eq g s1 s2), hbest, ck_of (inI (by omega) (by omega))]
  rw [if_neg (by
    rw [show decide ((0 : Int) < ((mg (Ed g) true (List.range g.length) : Nat) : Int)) = decide (2 * mst (nb g) (2 ^ g.length - 1) = (g.length : Int)) from decide_eq_decide.2 hperf]
    simp), if_neg (show ¬ ((mg (Ed g) false (List.range g.length) : Int) < (mg (Ed g) true (List.range g.length) : Int)) by omega), cal_of e5]
  by_cases he : (edges g).length = 0
  · rw [if_pos (by omega)]
    have hnil : edges g = [] := List.eq_nil_of_length_eq_zero he
    have hno : ∀ x y, decide (Ed g x y) = false := fun x y => decide_eq_false fun hxy => by
      obtain ⟨_, _, hne, hyx⟩ := hH.rng _ _ hxy
      rcases Nat.lt_or_gt_of_ne hne with g1 | g1
      · have := (mem_edges hH _).2 ⟨x, y, rfl, g1, hxy⟩
        rw [hnil] at this; cases this
      · have := (mem_edges hH _).2 ⟨y, x, rfl, g1, hyx⟩
        rw [hnil] at this; cases this
    have q1 : mg (Ed g) false (List.range g.length) = 1 := mt_none hno _
    have q2 : mg (Ed g) true (List.range g.length) = 0 := mt_none_p hno (by intro e; have := congrArg List.length e; rw [List.length_range, List.length_nil] at this; omega)
    rw [q1, q2]; rfl
  rw [if_neg (by omega)]
  obtain ⟨i', d4, e6, y0, y1, k4⟩ := below_ex k2 (n := ((edges g).length : Int)) (by omega)
  obtain ⟨i, rfl⟩ := Int.eq_ofNat_of_zero_le y0
  have hi : i < (edges g).length := by omega
  obtain ⟨u, v, eq, huv, hE⟩ := (mem_edges hH _).1 (List.getElem_mem hi)
  have hu := (hH.rng _ _ hE).1
  have hv := (hH.rng _ _ hE).2.1
  have i0 : ∀ {β : Type} (q : Int → Option β), idx [(u : Int), (v : Int)] 0 q = q u := fun q => rfl
  have i1 : ∀ {β : Type} (q : Int → Option β), idx [(u : Int), (v : Int)] 1 q = q v := fun q => rfl
  obtain ⟨g2, e7, hH2⟩ := cut_ex hH h16 hE
  obtain ⟨e8, e9⟩ := many_matchings hH2 h1 h16
  rw [cal_of e6]
  dsimp only
  rw [idx_nat hi, eq, i0, i1, cal_of e7, cal_of (w6Rest_eq h16 u v), ints_len]
  let L : List Nat := (List.range g.length).filter fun w => decide (w ≠ u ∧ w ≠ v)
  have hLn : L.Nodup := List.nodup_range.filter _
  have hLl : L.length ≤ g.length := Nat.le_trans (List.length_filter_le ..) (by simp)
  have hLm : ∀ x ∈ L, x < g.length := fun x hx => List.mem_range.1 (List.mem_filter.1 hx).1
  have hmid : (if 0 < (L.length : Int) then
      cal (F_spec_Induced g (ints L)) (fun x335 => cal (F_impl_MatchingsMany x335.1) (fun x376 => cal (F_impl_PerfectMany x335.1) (fun x383 => (some (.inl (x376, x383)) : Option ((Int × Int) ⊕ Bool)))))
      else some (.inl (1, 1))) = some (.inl ((mg (Ed g) false L : Int), (mg (Ed g) true L : Int))) ∧ mg (Ed g) false L ≤ 20922789888000 ∧ mg (Ed g) true L ≤ 20922789888000 := by
    by_cases hL0 : 0 < L.length
    · obtain ⟨g3, e10, hH3⟩ := of_ex hH h16 hLm (by omega)
      obtain ⟨e11, e12⟩ := many_matchings hH3 (by omega) (by omega)
      have b1 := mg_bound hH3 (by omega) false
      have b2 := mg_bound hH3 (by omega) true
      rw [mg_of hLn] at e11 e12 b1 b2
      refine ⟨?_, b1, b2⟩
      have hr : Rises (ints L) g.length := rises_of (by unfold ints; exact List.Pairwise.map _ (fun a b h => by omega) (List.pairwise_lt_range.filter _)) (fun y hy => by
        unfold ints at hy
        obtain ⟨w, hw, rfl⟩ := List.mem_map.1 hy
        have := hLm w hw; omega)
      unfold F_spec_Induced
      rw [if_pos (by omega), specSetOk_eq g _ s2 (by rw [ints_len]; omega), cal_some_eq, if_neg (by simp [hg, hr]), ints_len, if_neg (by omega), cal_of e10, cal_some_eq]
      dsimp only
      rw [cal_of e11, cal_of e12]
    · have hnil : L = [] := List.eq_nil_of_length_eq_zero (by omega)
      rw [hnil, if_neg (by simp)]
      exact ⟨rfl, show 1 ≤ 20922789888000 by decide, show 1 ≤ 20922789888000 by decide⟩
  obtain ⟨hm, b1, b2⟩ := hmid
  obtain ⟨s, d5, e13, hsl, k5⟩ := w6Set_ex k4 (g := g) h16
  have c1 := mg_cut (E := Ed g) (p := false) (n := g.length) (fun x y hxy => (hH.rng _ _ hxy).2.2.2) (Nat.ne_of_lt huv) hu hv hE
  have c2 := mg_cut (E := Ed g) (p := true) (n := g.length) (fun x y hxy => (hH.rng _ _ hxy).2.2.2) (Nat.ne_of_lt huv) hu hv hE
  have b3 := mg_bound hH2 h16 false
  have b4 := mg_bound hH2 h16 true
  refine Eq.trans (congrArg (fun q => bnd q fun j => F_laws_FnMatchings_k1 (g, d2) (mg (Ed g) false (List.range g.length) : Int) (mg (Ed g) true (List.range g.length) : Int) ((i : Int), d4) (g2, true) j.1 j.2) hm) ?_
  rw [bnd_inl_eq]
  unfold F_laws_FnMatchings_k1
  dsimp only
  rw [cal_of e13, cal_of e8, ck_of (inI (by omega) (by omega)), if_pos (by rw [c1]; exact Int.natCast_add _ _), cal_of e9, ck_of (inI (by omega) (by omega)), if_pos (by rw [c2]; exact Int.natCast_add _ _), cal_of (implOddParts_eq g s s1 s2 (by omega)), cal_of (specOddParts_eq g s s1 s2 (by omega))]
  simp
end Go.Proofs.YtadjcnllmkdgiaaDoor

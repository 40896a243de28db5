/- FnColourWays: the plain law. -/
import Derived.Test.YtadjcnllmkdgiaaTFnExactColourWays
import Derived.Test.YtadjcnllmkdgiaaGDel
import Derived.Test.YtadjcnllmkdgiaaColCount
namespace Go.Proofs.Ytadjcnllmkdgiaa
open Classical in
theorem ways_many {g : List (List Int)} {n : Nat} {E : Nat → Nat → Prop} (h : Has g n E) (h1 : 1 ≤ n) (h8 : n ≤ 8) {k : Nat} (hk : k ≤ 16) : resColourWays g (k : Int) = (many E k n : Int) := by
  have hl := h.len
  have hg := h.gok h1 (by omega)
  have hnl := nb_len g
  have hgs : GOk g ∧ g.length ≤ 8 := ⟨hg, by omega⟩
  unfold resColourWays
  rw [if_pos ⟨hgs, by omega, by omega⟩, (resPartitionsBy_ok hgs).1]
  have hw := ways_col (nb g) k
  rw [hnl] at hw
  rw [hw, hl, col_many (E := E) (n := n) (fun x y hxy => (h.rng _ _ hxy).2.2.2) (fun x hxx => (h.rng _ _ hxx).2.2.1 rfl) fun w u hw hu => h.bit hw]
open Classical in
theorem many_congr {E E' : Nat → Nat → Prop} {k n : Nat} (h : ∀ x y, x < n → y < n → (E x y ↔ E' x y)) : many E k n = many E' k n := by
  unfold many
  refine List.countP_congr fun r hr => ?_
  have hl := (mem_ext.1 hr).1
  simp only [List.length_nil, Nat.zero_add] at hl
  simp only [decide_eq_true_eq]
  exact ⟨fun ha x y hx hy hxy => ha x y hx hy ((h x y (by omega) (by omega)).2 hxy), fun ha x y hx hy hxy => ha x y hx hy ((h x y (by omega) (by omega)).1 hxy)⟩
theorem ext_len {k : Nat} : ∀ {m : Nat} {p : List Nat}, (ext k m p).length = k ^ m
  | 0, p => by simp [ext]
  | m + 1, p => by
    rw [ext, List.length_flatMap, sum_const _ (k ^ m) _ fun c _ => ext_len, List.length_range, Nat.pow_succ, Nat.mul_comm]
open Classical in
theorem many_le (E : Nat → Nat → Prop) (k n : Nat) : many E k n ≤ k ^ n := by
  unfold many
  rw [← ext_len (k := k) (m := n) (p := [])]
  exact List.countP_le_length
open Classical in
theorem many_free {E : Nat → Nat → Prop} {k n : Nat} (h : ∀ x y, ¬ E x y) : many E k n = k ^ n := by
  unfold many
  rw [← ext_len (k := k) (m := n) (p := []), List.countP_eq_length]
  exact fun r _ => decide_eq_true fun x y _ _ hxy => absurd hxy (h x y)
open Classical in
theorem many_pos {g : List (List Int)} {n : Nat} {E : Nat → Nat → Prop} (h : Has g n E) {k : Nat} : 0 < many E k n ↔ chrom (nb g) ≤ k := by
  have hl := h.len
  have hnl := nb_len g
  unfold many
  rw [List.countP_pos_iff, chrom_le_iff, hnl, hl]
  constructor
  · rintro ⟨r, hr, hA⟩
    obtain ⟨h1, _, h3⟩ := mem_ext.1 hr
    simp only [List.length_nil, Nat.zero_add] at h1
    have hA' := of_decide_eq_true hA
    refine ⟨fun v => r.getD v 0, fun v hv => ?_, fun u v huv hv hb => ?_⟩
    · show r.getD v 0 < k
      rw [show r.getD v 0 = r[v]'(by omega) by simp [show v < r.length by omega]]
      exact h3 v (by omega) (Nat.zero_le _)
    · exact fun e => hA' v u (by omega) (by omega) ((h.bit hv).1 hb) e.symm
  · rintro ⟨f, hf1, hf2⟩
    refine ⟨(List.range n).map f, mem_ext.2 ⟨by simp, by simp, fun i hi _ => ?_⟩, decide_eq_true fun x y hx hy hxy => ?_⟩
    · rw [List.getElem_map, List.getElem_range]
      exact hf1 i (by simpa using hi)
    · simp only [List.length_map, List.length_range] at hx hy
      have ex : ((List.range n).map f).getD x 0 = f x := by simp [hx]
      have ey : ((List.range n).map f).getD y 0 = f y := by simp [hy]
      rw [ex, ey]
      rcases Nat.lt_trichotomy x y with g1 | g1 | g1
      · exact hf2 x y g1 hy ((h.bit hy).2 (h.rng _ _ hxy).2.2.2)
      · exact absurd g1 (h.rng _ _ hxy).2.2.1
      · exact fun e => hf2 y x g1 hx ((h.bit hx).2 hxy) e.symm
open Classical in
theorem T_FnColourWays (code : List (BitVec 8)) (hs : Sz.ok code) : F_laws_FnColourWays code = some true := by
  unfold F_laws_FnColourWays
  rw [cal_of (show F_laws_big code = some (decide (4096 < (code.length : Int))) from rfl)]
  by_cases hb : 4096 < code.length
  · rw [if_pos (by simp; omega)]
  rw [if_neg (by simp; omega)]
  obtain ⟨d, e1, k1⟩ := roll_ex (code := code) (by omega) 805
  obtain ⟨g, d2, e2, hg, hgl, k2⟩ := w6Graph_ex k1 (most := 7) (by omega) (by omega)
  obtain ⟨k', d3, e3, x0, x1, k3⟩ := below_ex k2 (n := 5) (by omega)
  obtain ⟨k, rfl⟩ := Int.eq_ofNat_of_zero_le x0
  obtain ⟨s1, s2⟩ := gok_smallG hg
  have h1 := hg.n1
  have hH := hg.has
  have hW := ways_many hH h1 (by omega) (k := k) (by omega)
  obtain ⟨e4, hel⟩ := edgesOf_ex hg
  rw [cal_of e1, cal_of e2, cal_of e3]
  dsimp only
  rw [cal_of (implColourWays_eq g _ s1 s2), cal_of (specChromaticOf_eq g s1 s2), if_pos hg, hW]
  have hp := many_pos hH (k := k)
  have hdd : decide ((0 : Int) < (many (Ed g) k g.length : Int)) = decide ((chrom (nb g) : Int) ≤ (k : Int)) := decide_eq_decide.2 (by omega)
  rw [if_neg (by rw [hdd]; simp), cal_of e4]
  by_cases he : (edges g).length = 0
  · rw [if_pos (by omega)]
    have hno : ∀ x y, ¬ Ed g x y := fun x y hxy => by
      obtain ⟨_, _, hne, hyx⟩ := hH.rng _ _ hxy
      have hnil : edges g = [] := List.eq_nil_of_length_eq_zero he
      rcases Nat.lt_or_gt_of_ne hne with g1 | g1
      · have := (mem_edges hH _).2 ⟨x, y, rfl, g1, hxy⟩
        rw [hnil] at this; cases this
      · have := (mem_edges hH _).2 ⟨y, x, rfl, g1, hyx⟩
        rw [hnil] at this; cases this
    have hpow : ∀ m, m ≤ 7 → k ^ m ≤ 16384 := fun m hm => Nat.le_trans (Nat.pow_le_pow_left (show k ≤ 4 by omega) m) (Nat.le_trans (Nat.pow_le_pow_right (by omega) hm) (by decide))
    have e5 : lp (fun s => F_laws_FnColourWays_l1 (g, d2) ((k : Int), d3) s.1 s.2) (1, 0) = some (.inl ((k ^ g.length : Nat) : Int)) := by
      refine lp_nums g.length (fun m => ((k ^ m : Nat) : Int)) (fun m hm => ?_) ?_
      · simp only [F_laws_FnColourWays_l1]
        have hq := hpow (m + 1) (by omega)
        have hmul : ((k ^ m : Nat) : Int) * (k : Int) = ((k ^ (m + 1) : Nat) : Int) := by rw [Nat.pow_succ, Int.natCast_mul]
        rw [if_pos (by omega), hmul, ck_of (inI_nat (by omega)), ck_of (inI (by omega) (by omega))]; rfl
      · simp only [F_laws_FnColourWays_l1]
        rw [if_neg (by omega)]
    rw [bnd_l e5]
    unfold F_laws_FnColourWays_k2
    rw [many_free hno]; simp
  · rw [if_neg (by omega)]
    obtain ⟨i', d4, e6, y0, y1, k4⟩ := below_ex k3 (n := ((edges g).length : Int)) (by omega)
    obtain ⟨i, rfl⟩ := Int.eq_ofNat_of_zero_le y0
    have hi : i < (edges g).length := by omega
    obtain ⟨u, v, eq, huv, hE⟩ := (mem_edges hH _).1 (List.getElem_mem hi)
    have hvn := (hH.rng _ _ hE).2.1
    have i0 : ∀ {β : Type} (q : Int → Option β), idx [(u : Int), (v : Int)] 0 q = q u := fun q => rfl
    have i1 : ∀ {β : Type} (q : Int → Option β), idx [(u : Int), (v : Int)] 1 q = q v := fun q => rfl
    obtain ⟨g2, e7, hH2⟩ := cut_ex hH hg.n16 hE
    obtain ⟨g3, e8, hH3⟩ := contract_ex hH hg.n16 huv hE
    have hg2 := hH2.gok h1 hg.n16
    have hg3 := hH3.gok (by omega) (by omega)
    have hW2 := ways_many hH2 h1 (by omega) (k := k) (by omega)
    have hW3 := ways_many hH3 (by omega) (by omega) (k := k) (by omega)
    rw [cal_of e6]
    dsimp only
    rw [idx_nat hi, eq, i0, i1, cal_of e7, i0, i1, cal_of e8]
    dsimp only
    rw [cal_of (implColourWays_eq g2 _ (gok_smallG hg2).1 (gok_smallG hg2).2), cal_of (implColourWays_eq g3 _ (gok_smallG hg3).1 (gok_smallG hg3).2), hW2, hW3]
    have hcut := many_cut (E := Ed g) (k := k) (n := g.length) (fun x y hxy => (hH.rng _ _ hxy).2.2.2) (fun x hxx => (hH.rng _ _ hxx).2.2.1 rfl) huv hvn hE
    have hc2 : many (fun i j => i < g.length - 1 ∧ j < g.length - 1 ∧ (Ed g (past v i) (past v j) ∨ (past v i = u ∧ past v j ≠ u ∧ Ed g v (past v j)) ∨ (past v j = u ∧ past v i ≠ u ∧ Ed g v (past v i)))) k (g.length - 1) = many (fun i j => Ed g (past v i) (past v j) ∨ (past v i = u ∧ past v j ≠ u ∧ Ed g v (past v j)) ∨ (past v j = u ∧ past v i ≠ u ∧ Ed g v (past v i))) k (g.length - 1) :=
      many_congr fun x y hx hy => ⟨fun h => h.2.2, fun h => ⟨hx, hy, h⟩⟩
    rw [hc2, hcut]
    generalize hA : many (Ed g) k g.length = A
    generalize many (fun i j => Ed g (past v i) (past v j) ∨ (past v i = u ∧ past v j ≠ u ∧ Ed g v (past v j)) ∨ (past v j = u ∧ past v i ≠ u ∧ Ed g v (past v i))) k (g.length - 1) = B
    have e9 : ((A + B : Nat) : Int) - (B : Int) = (A : Int) := by omega
    have hAl : A ≤ 16384 := by
      rw [← hA]
      exact Nat.le_trans (many_le _ _ _) (Nat.le_trans (Nat.pow_le_pow_left (show k ≤ 4 by omega) _) (Nat.le_trans (Nat.pow_le_pow_right (by omega) (show g.length ≤ 7 by omega)) (by decide)))
    rw [e9, ck_of (inI_nat (by omega))]; simp
end Go.Proofs.Ytadjcnllmkdgiaa

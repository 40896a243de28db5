/- Plain texts: DrawF, DrawG, TFnExactLeastCrossings, TFnExactCrossingsOf, TFnExactChordsCross. -/
import Derived.Test.YtbefgidkaepmmaaGreatDoorP1
/- What the reference draws: each draw gives something, and nothing long. -/
namespace Go.Proofs.YtbefgidkaepmmaaGreatDoor
structure KOk (d : List (BitVec 8) × Int × Int) : Prop where
  len : d.1.length ≤ 4096
  pos : 0 ≤ d.2.1
  le : d.2.1 ≤ (d.1.length : Int)
theorem and255 (x : Int) : 0 ≤ i64and x 255 ∧ i64and x 255 ≤ 255 := by
  have h : (BitVec.ofInt 64 x &&& BitVec.ofInt 64 255).toNat ≤ 255 := by
    rw [BitVec.toNat_and]
    exact Nat.le_trans Nat.and_le_right (by decide)
  unfold i64and
  rw [BitVec.toInt_eq_toNat_of_lt (by omega)]
  omega
theorem and30 (x : Int) : 0 ≤ i64and x 1073741823 ∧ i64and x 1073741823 ≤ 1073741823 := by
  have h : (BitVec.ofInt 64 x &&& BitVec.ofInt 64 1073741823).toNat ≤ 1073741823 := by
    rw [BitVec.toNat_and]
    exact Nat.le_trans Nat.and_le_right (by decide)
  unfold i64and
  rw [BitVec.toInt_eq_toNat_of_lt (by omega)]
  omega
theorem l1New_ex {code : List (BitVec 8)} (h : code.length ≤ 4096) : ∃ d, F_spec_l1New code = some d ∧ KOk d := by
  unfold F_spec_l1New
  rw [ck_of (inI (by omega) (by omega))]
  have := lp_ex (step := fun s => F_spec_l1New_l1 code s.1 s.2) (fun (k : Nat) (a : Int) => (a, (k : Int))) code.length (fun k a => 0 ≤ a ∧ a ≤ 1073741823) (fun o => ∃ a, o = .inl a) ?_ ?_ code.length 0 (580031 + (code.length : Int)) (by omega) (by omega)
  · obtain ⟨o, e, a, rfl⟩ := this
    rw [show ((0 : Nat) : Int) = 0 from rfl] at e
    rw [bnd_l e]
    exact ⟨_, rfl, h, by show (0 : Int) ≤ 0; omega, by show (0 : Int) ≤ _; omega⟩
  · intro k a hk ⟨h1, h2⟩
    simp only [F_spec_l1New_l1]
    have hb := (code[k]).isLt
    rw [if_pos (by omega), ck_of (inI (by omega) (by omega)), idx_nat hk, ck_of (inI (by omega) (by omega)), ck_of (inI (by omega) (by omega)), ck_of (inI (by omega) (by omega))]
    exact ⟨_, rfl, and30 _⟩
  · intro a _
    simp only [F_spec_l1New_l1]
    rw [if_neg (by omega)]
    exact ⟨_, rfl, a, rfl⟩
theorem l1Byte_ex {d : List (BitVec 8) × Int × Int} (h : KOk d) : ∃ x d', F_spec_l1Byte d = some (x, d') ∧ 0 ≤ x ∧ x ≤ 255 ∧ KOk d' := by
  unfold F_spec_l1Byte
  have h1 := h.len; have h2 := h.pos; have h3 := h.le
  by_cases hl : d.2.1 < (d.1.length : Int)
  · rw [if_pos hl]
    obtain ⟨k, hk⟩ := Int.eq_ofNat_of_zero_le h2
    have hkl : k < d.1.length := by omega
    rw [hk, idx_nat hkl]
    have hw : wI ((k : Int) + 1) = (k : Int) + 1 := by unfold wI; omega
    refine ⟨_, _, rfl, (and255 _).1, (and255 _).2, h1, ?_, ?_⟩
    · dsimp only; rw [hw]; omega
    · dsimp only; rw [hw]; omega
  · rw [if_neg hl]
    exact ⟨_, _, rfl, (and255 _).1, (and255 _).2, h1, h2, h3⟩
theorem l1Below_ex {d : List (BitVec 8) × Int × Int} (h : KOk d) {n : Int} (hn : n ≤ 256) : ∃ x d', F_spec_l1Below d n = some (x, d') ∧ 0 ≤ x ∧ x ≤ 255 ∧ (0 < n → x < n) ∧ KOk d' := by
  unfold F_spec_l1Below
  by_cases h0 : n ≤ 0
  · rw [if_pos h0]
    exact ⟨0, d, rfl, by omega, by omega, fun h => by omega, h⟩
  · rw [if_neg h0, if_pos hn]
    obtain ⟨x, d', e, x0, x1, k⟩ := l1Byte_ex h
    rw [cal_of e]
    dsimp only
    rw [grd_of ⟨x0, by omega⟩]
    have h1 := Int.emod_nonneg x (show n ≠ 0 by omega)
    have h2 := Int.emod_lt_of_pos x (show 0 < n by omega)
    exact ⟨_, _, rfl, h1, by omega, fun _ => h2, k⟩
theorem l1Once_ex {d : List (BitVec 8) × Int × Int} (h : KOk d) {n : Int} (hn : n ≤ 256) : ∃ b d', F_spec_l1Once d n = some (b, d') ∧ KOk d' := by
  unfold F_spec_l1Once
  obtain ⟨x, d', e, _, _, _, k⟩ := l1Below_ex h hn
  rw [cal_of e]
  exact ⟨_, _, rfl, k⟩
theorem l1From_ex {d : List (BitVec 8) × Int × Int} (h : KOk d) {a b : Int} (ha : -100 ≤ a) (hb : b ≤ 100) (hab : a ≤ b) : ∃ x d', F_spec_l1From d a b = some (x, d') ∧ KOk d' := by
  unfold F_spec_l1From
  obtain ⟨x, d', e, x0, x1, _, k⟩ := l1Below_ex h (n := b - a + 1) (by omega)
  rw [ck_of (inI (by omega) (by omega)), ck_of (inI (by omega) (by omega)), cal_of e]
  dsimp only
  rw [ck_of (inI (by omega) (by omega))]
  exact ⟨_, _, rfl, k⟩
theorem l1Odd_ex {d : List (BitVec 8) × Int × Int} (h : KOk d) : ∃ x d', F_spec_l1Odd d = some (x, d') ∧ KOk d' := by
  unfold F_spec_l1Odd
  obtain ⟨x, d', e, x0, x1, x2, k⟩ := l1Below_ex h (n := 10) (by omega)
  have x3 := x2 (by omega)
  obtain ⟨m, rfl⟩ := Int.eq_ofNat_of_zero_le x0
  rw [cal_of e]
  dsimp only
  rw [idx_nat (show m < _ by simp; omega)]
  exact ⟨_, _, rfl, k⟩
theorem l1Num_ex {d : List (BitVec 8) × Int × Int} (h : KOk d) {m : Int} (h0 : 0 ≤ m) (hm : m ≤ 100) : ∃ x d', F_spec_l1Num d m = some (x, d') ∧ KOk d' := by
  unfold F_spec_l1Num
  obtain ⟨b, d1, e1, k1⟩ := l1Once_ex h (n := 10) (by omega)
  rw [cal_of e1]
  dsimp only
  by_cases hb : b = true
  · rw [if_pos hb, ck_of (inI (by omega) (by omega))]
    obtain ⟨y, d2, e2, k2⟩ := l1Odd_ex k1
    obtain ⟨x, d3, e3, x0, x1, x2, k3⟩ := l1Below_ex k2 (n := 4) (by omega)
    have x3 := x2 (by omega)
    obtain ⟨j, rfl⟩ := Int.eq_ofNat_of_zero_le x0
    rw [cal_of e2]
    dsimp only
    rw [cal_of e3]
    dsimp only
    rw [idx_nat (show j < _ by simp; omega)]
    exact ⟨_, _, rfl, k3⟩
  · rw [if_neg hb]
    obtain ⟨b2, d2, e2, k2⟩ := l1Once_ex k1 (n := 2) (by omega)
    rw [cal_of e2]
    dsimp only
    by_cases hb2 : b2 = true
    · rw [if_pos hb2]
      obtain ⟨q, hq, hq4⟩ : ∃ q, F_spec_l1Min m 4 = some q ∧ 0 ≤ q ∧ q ≤ 4 := by
        unfold F_spec_l1Min
        split
        · exact ⟨_, rfl, by omega, by omega⟩
        · exact ⟨_, rfl, by omega, by omega⟩
      obtain ⟨x, d3, e3, _, _, _, k3⟩ := l1Below_ex k2 (n := q + 1) (by omega)
      rw [cal_of hq, ck_of (inI (by omega) (by omega)), cal_of e3]
      exact ⟨_, _, rfl, k3⟩
    · rw [if_neg hb2, ck_of (inI (by omega) (by omega))]
      obtain ⟨x, d3, e3, _, _, _, k3⟩ := l1Below_ex k2 (n := m + 1) (by omega)
      rw [cal_of e3]
      exact ⟨_, _, rfl, k3⟩
def Gr (g : List (List Int)) (n : Nat) : Prop := ∃ E, Has g n E
theorem Gr.link {g : List (List Int)} {n : Nat} (h : Gr g n) (h16 : n ≤ 16) {u v : Nat} (hu : u < n) (hv : v < n) (huv : u ≠ v) : ∃ g', F_spec_l1Link g (u : Int) (v : Int) = some g' ∧ Gr g' n := by
  obtain ⟨E, hE⟩ := h
  obtain ⟨g', e, h'⟩ := link_ex hE h16 hu hv huv
  exact ⟨g', e, _, h'⟩
theorem pathGraph_ex {n : Nat} (h1 : 1 ≤ n) (h16 : n ≤ 16) : ∃ g, F_spec_PathGraph (n : Int) = some (g, true) ∧ Gr g n := by
  unfold F_spec_PathGraph F_spec_l6Of
  rw [l1In_eq, cal_some_eq, if_neg (by simp; omega), cal_of (l1Empty_eqD (by omega)), cal_some_eq]
  have := lp_ex (step := fun s => F_spec_PathGraph_l1 (n : Int) (List.replicate n [], true) s.1 s.2) (fun (k : Nat) (g : List (List Int)) => (g, (1 : Int) + (k : Int))) (n - 1) (fun k g => Gr g n) (fun o => ∃ g, o = .inl g ∧ Gr g n) ?_ ?_ (n - 1) 0 (List.replicate n []) (by omega) ⟨_, has_empty n⟩
  · obtain ⟨o, e, g, rfl, hg⟩ := this
    have e' : lp (fun s => F_spec_PathGraph_l1 (n : Int) (List.replicate n [], true) s.1 s.2) (List.replicate n [], 1) = some (.inl g) := by rw [← e]; rfl
    rw [bnd_l e']
    exact ⟨g, rfl, hg⟩
  · intro k g hk hg
    obtain ⟨g', e, hg'⟩ := hg.link h16 (u := k) (v := k + 1) (by omega) (by omega) (by omega)
    simp only [F_spec_PathGraph_l1]
    rw [if_pos (by omega), if_pos (by simp), ck_of (inI (by omega) (by omega)), show (1 : Int) + (k : Int) - 1 = (k : Int) by omega, show (1 : Int) + (k : Int) = ((k + 1 : Nat) : Int) by omega, cal_of e, ck_of (inI (by omega) (by omega))]
    exact ⟨g', inl_eq (pair_eq rfl (by omega)), hg'⟩
  · intro g hg
    simp only [F_spec_PathGraph_l1]
    rw [if_neg (by omega)]
    exact ⟨_, rfl, g, rfl, hg⟩
theorem loopGraph_ex {n : Nat} (h1 : 3 ≤ n) (h16 : n ≤ 16) : ∃ g, F_spec_LoopGraph (n : Int) = some (g, true) ∧ Gr g n := by
  unfold F_spec_LoopGraph
  obtain ⟨g, e, hg⟩ := pathGraph_ex (n := n) (by omega) h16
  obtain ⟨g', e', hg'⟩ := hg.link h16 (u := 0) (v := n - 1) (by omega) (by omega) (by omega)
  rw [cal_of e, if_neg (by simp), if_neg (by omega), ck_of (inI (by omega) (by omega)), show (n : Int) - 1 = ((n - 1 : Nat) : Int) by omega]
  dsimp only
  rw [show (0 : Int) = ((0 : Nat) : Int) from rfl, cal_of e']
  exact ⟨g', rfl, hg'⟩
theorem drawOf_ex {d : List (BitVec 8) × Int × Int} (h : KOk d) {n : Nat} (h16 : n ≤ 16) : ∃ g d', F_spec_l1DrawOf d (n : Int) = some (g, d') ∧ Gr g n ∧ KOk d' := by
  unfold F_spec_l1DrawOf
  obtain ⟨x, d1, e1, x0, x1, _, k1⟩ := l1Below_ex h (n := 3) (by omega)
  rw [cal_of (l1Empty_eqD (by omega)), cal_of e1, ck_of (inI (by dsimp only; omega) (by dsimp only; omega))]
  dsimp only
  have := lp_ex (step := fun s => F_spec_l1DrawOf_l1 (n : Int) (x, d1) s.1 s.2.1 s.2.2) (fun (k : Nat) (a : (List (BitVec 8) × Int × Int) × List (List Int)) => (a.1, a.2, (1 : Int) + (k : Int))) (n - 1)
    (fun k a => KOk a.1 ∧ Gr a.2 n) (fun o => ∃ g d', o = .inl (g, d') ∧ Gr g n ∧ KOk d') ?_ ?_ (n - 1) 0 (d1, List.replicate n []) (by omega) ⟨k1, _, has_empty n⟩
  · obtain ⟨o, e, g, d', rfl, hg, hd⟩ := this
    have e' : lp (fun s => F_spec_l1DrawOf_l1 (n : Int) (x, d1) s.1 s.2.1 s.2.2) (d1, List.replicate n [], 1) = some (.inl (g, d')) := by rw [← e]; rfl
    rw [bnd_l e']
    exact ⟨g, d', rfl, hg, hd⟩
  · rintro k ⟨da, g⟩ hk ⟨kd, hg⟩
    dsimp only at kd hg
    have inner := lp_ex (step := fun s => F_spec_l1DrawOf_l2 (x, d1) ((1 : Int) + (k : Int)) s.1 s.2.1 s.2.2) (fun (j : Nat) (a : (List (BitVec 8) × Int × Int) × List (List Int)) => (a.1, a.2, (j : Int))) (k + 1)
      (fun j a => KOk a.1 ∧ Gr a.2 n) (fun o => ∃ g d', o = .inl (d', g) ∧ Gr g n ∧ KOk d') ?_ ?_ (k + 1) 0 (da, g) (by omega) ⟨kd, hg⟩
    · obtain ⟨o, e, g', d', rfl, hg', hd'⟩ := inner
      refine ⟨(d', g'), ?_, hd', hg'⟩
      simp only [F_spec_l1DrawOf_l1]
      rw [if_pos (by omega), show (0 : Int) = ((0 : Nat) : Int) from rfl, bnd_l e]
      unfold F_spec_l1DrawOf_k3
      rw [ck_of (inI (by omega) (by omega))]
      exact inl_eq (pair_eq rfl (pair_eq rfl (by omega)))
    · rintro j ⟨db, g2⟩ hj ⟨kb, hg2⟩
      dsimp only at kb hg2
      obtain ⟨z, d3, e5, z0, z1, _, k5⟩ := l1Below_ex kb (n := 4) (by omega)
      simp only [F_spec_l1DrawOf_l2]
      rw [if_pos (by omega), cal_of e5]
      dsimp only
      by_cases hz : z < 1 + x
      · obtain ⟨g3, e6, hg3⟩ := hg2.link h16 (u := j) (v := k + 1) (by omega) (by omega) (by omega)
        rw [if_pos hz, show (1 : Int) + (k : Int) = ((k + 1 : Nat) : Int) by omega, cal_of e6, ck_of (inI (by omega) (by omega))]
        exact ⟨(d3, g3), rfl, k5, hg3⟩
      · rw [if_neg hz, ck_of (inI (by omega) (by omega))]
        exact ⟨(d3, g2), rfl, k5, hg2⟩
    · rintro ⟨db, g2⟩ ⟨kb, hg2⟩
      simp only [F_spec_l1DrawOf_l2]
      rw [if_neg (by omega)]
      exact ⟨_, rfl, g2, db, rfl, hg2, kb⟩
  · rintro ⟨da, g⟩ ⟨kd, hg⟩
    simp only [F_spec_l1DrawOf_l1]
    rw [if_neg (by omega)]
    exact ⟨_, rfl, g, da, rfl, hg, kd⟩
theorem l1Draw_ex {d : List (BitVec 8) × Int × Int} (h : KOk d) : ∃ g d' n, F_spec_l1Draw d = some (g, d') ∧ Gr g n ∧ 1 ≤ n ∧ n ≤ 8 ∧ KOk d' := by
  unfold F_spec_l1Draw
  obtain ⟨x, d1, e1, x0, x1, _, k1⟩ := l1Below_ex h (n := 6) (by omega)
  rw [cal_of e1]
  dsimp only
  by_cases h0 : x = 0
  · rw [if_pos h0]
    obtain ⟨y, d2, e2, y0, y1, y2, k2⟩ := l1Below_ex k1 (n := 4) (by omega)
    have y3 := y2 (by omega)
    obtain ⟨g, e3, hg⟩ := loopGraph_ex (n := (3 + y).toNat) (by omega) (by omega)
    rw [show (((3 + y).toNat : Nat) : Int) = 3 + y by omega] at e3
    rw [cal_of e2]
    dsimp only
    rw [ck_of (inI (by omega) (by omega)), cal_of e3]
    exact ⟨g, d2, _, rfl, hg, by omega, by omega, k2⟩
  · rw [if_neg h0]
    by_cases h1 : x = 1
    · rw [if_pos h1]
      obtain ⟨y, d2, e2, y0, y1, y2, k2⟩ := l1Below_ex k1 (n := 6) (by omega)
      have y3 := y2 (by omega)
      obtain ⟨g, e3, hg⟩ := pathGraph_ex (n := (1 + y).toNat) (by omega) (by omega)
      rw [show (((1 + y).toNat : Nat) : Int) = 1 + y by omega] at e3
      rw [cal_of e2]
      dsimp only
      rw [ck_of (inI (by omega) (by omega)), cal_of e3]
      exact ⟨g, d2, _, rfl, hg, by omega, by omega, k2⟩
    · rw [if_neg h1]
      obtain ⟨y, d2, e2, y0, y1, y2, k2⟩ := l1Below_ex k1 (n := 7) (by omega)
      have y3 := y2 (by omega)
      obtain ⟨g, d3, e3, hg, k3⟩ := drawOf_ex k2 (n := (1 + y).toNat) (by omega)
      rw [show (((1 + y).toNat : Nat) : Int) = 1 + y by omega] at e3
      rw [cal_of e2]
      dsimp only
      rw [ck_of (inI (by omega) (by omega)), cal_of e3]
      exact ⟨g, d3, _, rfl, hg, by omega, by omega, k3⟩
def Short (g : List (List Int)) : Prop := g.length ≤ 20 ∧ ∀ x ∈ g, x.length ≤ 20
theorem Gr.short {g : List (List Int)} {n : Nat} (h : Gr g n) (h16 : n ≤ 16) : Short g := by
  obtain ⟨E, hE⟩ := h
  refine ⟨by have := hE.len; omega, fun x hx => by have := (hE.small h16).2 x hx; omega⟩
theorem l1DrawAny_ex {d : List (BitVec 8) × Int × Int} (h : KOk d) : ∃ g d', F_spec_l1DrawAny d = some (g, d') ∧ Short g ∧ KOk d' := by
  unfold F_spec_l1DrawAny
  obtain ⟨g, d1, n, e1, hg, h1, h8, k1⟩ := l1Draw_ex h
  obtain ⟨b, d2, e2, k2⟩ := l1Once_ex k1 (n := 12) (by omega)
  have hs := hg.short (by omega)
  have hs' : ∀ x ∈ g, x.length ≤ 16 := by obtain ⟨E, hE⟩ := hg; exact (hE.small (by omega)).2
  have hl : g.length = n := by obtain ⟨E, hE⟩ := hg; exact hE.len
  have hset : ∀ (k : Nat) (r : List Int), r.length ≤ 20 → Short (g.set k r) := fun k r hr => ⟨by rw [List.length_set]; exact hs.1, fun x hx => by
    rcases List.mem_or_eq_of_mem_set hx with h | h
    · exact hs.2 x h
    · rw [h]; exact hr⟩
  rw [cal_of e1]
  dsimp only
  rw [cal_of e2]
  dsimp only
  by_cases hb : b = true
  case neg => rw [if_neg hb]; exact ⟨g, d2, rfl, hs, k2⟩
  rw [if_pos hb]
  obtain ⟨v', d3, e3, v0, v1, v2, k3⟩ := l1Below_ex k2 (n := (g.length : Int)) (by omega)
  have v3 := v2 (by omega)
  obtain ⟨v, rfl⟩ := Int.eq_ofNat_of_zero_le v0
  have hvl : v < g.length := by omega
  obtain ⟨x, d4, e4, x0, x1, x2, k4⟩ := l1Below_ex k3 (n := 5) (by omega)
  rw [cal_of e3]
  dsimp only
  rw [cal_of e4]
  dsimp only
  by_cases c0 : x = 0
  · rw [if_pos c0, idx_nat hvl]
    obtain ⟨y, d5, e5, k5⟩ := l1Num_ex k4 (m := 16) (by omega) (by omega)
    have hr := hs' _ (List.getElem_mem hvl)
    rw [cal_of e5]
    dsimp only
    rw [app1_s (by omega), idx_nat hvl]
    exact ⟨_, d5, rfl, hset _ _ (by simp; omega), k5⟩
  rw [if_neg c0]
  by_cases c1 : x = 1
  · rw [if_pos c1, idx_nat hvl]
    exact ⟨_, d4, rfl, hset _ _ (by simp), k4⟩
  rw [if_neg c1]
  by_cases c2 : x = 2
  · rw [if_pos c2]
    obtain ⟨y, d5, e5, y0, y1, y2, k5⟩ := l1Below_ex k4 (n := 2) (by omega)
    have y3 := y2 (by omega)
    rw [cal_of e5]
    dsimp only
    have := l1Empty_eqD (n := (16 + y).toNat) (by omega)
    rw [show (((16 + y).toNat : Nat) : Int) = 16 + y by omega] at this
    rw [ck_of (inI (by omega) (by omega)), cal_of this]
    exact ⟨_, d5, rfl, ⟨by simp; omega, fun z hz => by rw [List.eq_of_mem_replicate hz]; simp⟩, k5⟩
  rw [if_neg c2]
  by_cases c3 : x = 3
  · rw [if_pos c3]; exact ⟨_, d4, rfl, ⟨by simp, fun z hz => by cases hz⟩, k4⟩
  rw [if_neg c3]
  by_cases c4 : x = 4
  · rw [if_pos c4, idx_nat hvl]
    exact ⟨_, d4, rfl, hset _ _ (by simp), k4⟩
  rw [if_neg c4]
  exact ⟨g, d4, rfl, hs, k4⟩
theorem drawOrder_ex {d : List (BitVec 8) × Int × Int} (h : KOk d) {g : List (List Int)} (hg : g.length ≤ 20) : ∃ o d', F_spec_l1DrawOrder d g = some (o, d') ∧ o.length = g.length ∧ KOk d' := by
  unfold F_spec_l1DrawOrder
  have hall : ∃ l : List Int, F_spec_l1All (g.length : Int) = some l ∧ l.length = g.length := by
    unfold F_spec_l1All
    have key : lp (fun s => F_spec_l1All_l1 (g.length : Int) s.1 s.2) (([] : List Int), 0) = some (.inl (ints (List.range g.length))) := by
      refine lp_nums g.length (fun k => ints (List.range k)) (fun k hk => ?_) ?_
      · simp only [F_spec_l1All_l1]
        rw [if_pos (by omega), app1_s (by rw [ints_len, List.length_range]; omega), ck_of (inI (by omega) (by omega)), ints_snoc, List.range_succ]; rfl
      · simp only [F_spec_l1All_l1]
        rw [if_neg (by omega)]
    rw [bnd_l key]
    exact ⟨_, rfl, by rw [ints_len, List.length_range]⟩
  obtain ⟨l, el, hl⟩ := hall
  rw [cal_of el]
  have := lp_ex (step := fun s => F_spec_l1DrawOrder_l1 s.1 s.2.1 s.2.2) (fun (k : Nat) (a : (List (BitVec 8) × Int × Int) × List Int × List Int) => (a.1, a.2.1, a.2.2)) g.length
    (fun k a => KOk a.1 ∧ a.2.1.length + k = g.length ∧ a.2.2.length = k) (fun r => ∃ o d', r = .inl (d', o) ∧ o.length = g.length ∧ KOk d') ?_ ?_ g.length 0 (d, l, []) (by omega) ⟨h, by show l.length + 0 = _; omega, rfl⟩
  · obtain ⟨r, e, o, d', rfl, ho, hd⟩ := this
    have e' : lp (fun s => F_spec_l1DrawOrder_l1 s.1 s.2.1 s.2.2) (d, l, ([] : List Int)) = some (.inl (d', o)) := e
    rw [bnd_l e']
    unfold F_spec_l1DrawOrder_k2
    dsimp only
    obtain ⟨b, d2, e2, k2⟩ := l1Once_ex hd (n := 15) (by omega)
    rw [cal_of e2]
    dsimp only
    by_cases hb : b = true
    · rw [if_pos hb]
      by_cases h0 : 0 < (o.length : Int)
      · rw [if_pos h0]
        obtain ⟨x, d3, e3, x0, x1, x2, k3⟩ := l1Below_ex k2 (n := (o.length : Int)) (by omega)
        have x3 := x2 h0
        obtain ⟨j, rfl⟩ := Int.eq_ofNat_of_zero_le x0
        obtain ⟨y, d4, e4, k4⟩ := l1From_ex k3 (a := -1) (b := 7) (by omega) (by omega) (by omega)
        rw [cal_of e3]
        dsimp only
        rw [cal_of e4]
        dsimp only
        rw [idx_nat (show j < o.length by omega)]
        exact ⟨_, d4, rfl, by simp [ho], k4⟩
      · rw [if_neg h0]; exact ⟨o, d2, rfl, ho, k2⟩
    · rw [if_neg hb]; exact ⟨o, d2, rfl, ho, k2⟩
  · rintro k ⟨da, l1, o⟩ hk ⟨kd, h1, h2⟩
    dsimp only at kd h1 h2
    obtain ⟨x, d3, e3, x0, x1, x2, k3⟩ := l1Below_ex kd (n := (l1.length : Int)) (by omega)
    have x3 := x2 (by omega)
    obtain ⟨j, rfl⟩ := Int.eq_ofNat_of_zero_le x0
    have hj : j < l1.length := by omega
    simp only [F_spec_l1DrawOrder_l1]
    rw [if_pos (by omega), cal_of e3]
    dsimp only
    have ht : (l1.take j).length = j := by rw [List.length_take]; omega
    rw [idx_nat hj, app1_s (by omega), slc_of (by omega), ck_of (inI (by omega) (by omega)), slc_of (by omega)]
    have z : ((0 : Int)).toNat = 0 := rfl
    have z2 : (((j : Int) + 1)).toNat = j + 1 := by omega
    simp only [z, z2, List.drop_zero, Nat.sub_zero, Int.toNat_natCast]
    rw [cal_of (l1Copy_eqD (by rw [ht]; omega)), app_s (by rw [ht]; simp; omega)]
    exact ⟨(d3, _, _), rfl, k3, by simp [ht]; omega, by simp [h2]⟩
  · rintro ⟨da, l1, o⟩ ⟨kd, h1, h2⟩
    dsimp only at kd h1 h2
    simp only [F_spec_l1DrawOrder_l1]
    rw [if_neg (by omega)]
    exact ⟨_, rfl, o, da, rfl, h2, kd⟩
end Go.Proofs.YtbefgidkaepmmaaGreatDoor

/- What the reference draws, further: the patterns and what is made of them. -/
namespace Go.Proofs.YtbefgidkaepmmaaGreatDoor
theorem i0D {β : Type} (a b : Int) (q : Int → Option β) : idx [a, b] 0 q = q a := idx_of (by decide) rfl
theorem i1D {β : Type} (a b : Int) (q : Int → Option β) : idx [a, b] 1 q = q b := idx_of (by decide) rfl
def Ge (g : List (List Int)) (n : Nat) : Prop := ∃ E, Has g n E ∧ ∃ u v, E u v
theorem Ge.gr {g : List (List Int)} {n : Nat} (h : Ge g n) : Gr g n := by obtain ⟨E, hE, _⟩ := h; exact ⟨E, hE⟩
theorem Gr.gok {g : List (List Int)} {n : Nat} (h : Gr g n) (h1 : 1 ≤ n) (h16 : n ≤ 16) : GOk g ∧ g.length = n := by
  obtain ⟨E, hE⟩ := h; exact ⟨hE.gok h1 h16, hE.len⟩
theorem Gr.row {g : List (List Int)} {n : Nat} (h : Gr g n) (h16 : n ≤ 16) : ∀ x ∈ g, x.length ≤ 1048576 := by
  obtain ⟨E, hE⟩ := h; intro x hx; have := (hE.small h16).2 x hx; omega
theorem Ge.link {g : List (List Int)} {n : Nat} (h : Gr g n) (h16 : n ≤ 16) {u v : Nat} (hu : u < n) (hv : v < n) (huv : u ≠ v) : ∃ g', F_spec_l1Link g (u : Int) (v : Int) = some g' ∧ Ge g' n := by
  obtain ⟨E, hE⟩ := h
  obtain ⟨g', e, h'⟩ := link_ex hE h16 hu hv huv
  exact ⟨g', e, _, h', u, v, .inr (.inl ⟨rfl, rfl⟩)⟩
theorem Ge.edges {g : List (List Int)} {n : Nat} (h : Ge g n) : 0 < (edges g).length := by
  obtain ⟨E, hE, u, v, huv⟩ := h
  obtain ⟨_, _, hne, hs⟩ := hE.rng _ _ huv
  rcases Nat.lt_or_ge u v with hl | hl
  · exact List.length_pos_of_mem ((mem_edges hE [(u : Int), (v : Int)]).2 ⟨u, v, rfl, hl, huv⟩)
  · exact List.length_pos_of_mem ((mem_edges hE [(v : Int), (u : Int)]).2 ⟨v, u, rfl, by omega, hs⟩)
theorem edge_ex {d : List (BitVec 8) × Int × Int} (h : KOk d) {g : List (List Int)} {n : Nat} (hg : Ge g n) (h1 : 1 ≤ n) (h16 : n ≤ 16) :
    ∃ x d', F_spec_l1Below d ((edges g).length : Int) = some (x, d') ∧ KOk d' ∧ ∃ (E : Nat → Nat → Prop) (u v : Nat), Has g n E ∧ E u v ∧ u < v ∧ ∀ {β : Type} (q : List Int → Option β), idx (edges g) x q = q [(u : Int), (v : Int)] := by
  have hl := hg.edges
  have hgok := (hg.gr.gok h1 h16).1
  have hm := edges_len256 hgok
  obtain ⟨x, d', e, x0, x1, x2, k⟩ := l1Below_ex h (n := ((edges g).length : Int)) (by omega)
  have x3 := x2 (by omega)
  obtain ⟨j, rfl⟩ := Int.eq_ofNat_of_zero_le x0
  have hj : j < (edges g).length := by omega
  obtain ⟨E, hE, _⟩ := hg
  obtain ⟨u, v, e2, huv, he⟩ := (mem_edges hE _).1 (List.getElem_mem hj)
  exact ⟨_, d', e, k, E, u, v, hE, he, huv, fun q => by rw [idx_nat hj, e2]⟩
theorem cutD_ex {g : List (List Int)} {n : Nat} {E : Nat → Nat → Prop} (h : Has g n E) (h16 : n ≤ 16) {u v : Nat} (he : E u v) : ∃ g', F_spec_CutEdge g (u : Int) (v : Int) = some (g', true) ∧ Gr g' n := by
  obtain ⟨g', e, h'⟩ := cut_ex h h16 he
  exact ⟨g', e, _, h'⟩
theorem Has.snocD {g : List (List Int)} {n : Nat} {E : Nat → Nat → Prop} (h : Has g n E) : Has (g ++ [[]]) (n + 1) E := by
  have hl := h.len
  refine ⟨by simp [hl], fun v hv => ?_, fun v hv y => ?_, fun u v huv => ?_⟩
  · by_cases c : v < g.length
    · rw [List.getElem_append_left c]; exact h.srt v c
    · rw [List.getElem_append_right (by omega)]; simp
  · by_cases c : v < g.length
    · rw [List.getElem_append_left c]; exact h.mem v c y
    · rw [List.getElem_append_right (by omega)]
      simp only [List.getElem_singleton, List.not_mem_nil, false_iff]
      rintro ⟨u, _, hu⟩
      have := (h.rng _ _ hu).1; omega
  · obtain ⟨a, b, c⟩ := h.rng u v huv; exact ⟨by omega, by omega, c⟩
theorem addedVertex_ex {g : List (List Int)} {n : Nat} (hg : Gr g n) (h1 : 1 ≤ n) (h16 : n < 16) {u v : Nat} (huv : u < v) (hv : v < n) : ∃ g', F_spec_AddedVertex g [(u : Int), (v : Int)] = some (g', true) ∧ Ge g' (n + 1) := by
  obtain ⟨hok, hl⟩ := hg.gok h1 (by omega)
  have hr := hg.row (by omega)
  have hset : Rises [(u : Int), (v : Int)] g.length := rises_of (by simp; omega) (by intro y hy; simp at hy; omega)
  obtain ⟨E, hE⟩ := hg
  unfold F_spec_AddedVertex F_spec_l1Size
  rw [cal_of (specSetOk_eq g _ hr (by simp)), if_neg (by simp [hok, hset]), cal_some_eq, if_neg (by omega), cal_of (l1CopyGraph_eqG (by omega) hr), app1_s (by omega)]
  have := lp_ex (step := fun s => F_spec_AddedVertex_l1 g [(u : Int), (v : Int)] s.1 s.2) (fun (k : Nat) (a : List (List Int)) => (a, (k : Int))) 2 (fun k a => Gr a (n + 1) ∧ (0 < k → Ge a (n + 1))) (fun o => ∃ a, o = .inl a ∧ Ge a (n + 1)) ?_ ?_ 2 0 (g ++ [[]]) (by omega) ⟨⟨_, hE.snocD⟩, fun h => by omega⟩
  · obtain ⟨o, e, a, rfl, ha⟩ := this
    have e' : lp (fun s => F_spec_AddedVertex_l1 g [(u : Int), (v : Int)] s.1 s.2) (g ++ [[]], 0) = some (.inl a) := e
    rw [bnd_l e']
    exact ⟨a, rfl, ha⟩
  · intro k a hk ⟨ha, _⟩
    obtain ⟨w, hw, hwn⟩ : ∃ w : Nat, (∀ {β : Type} (q : Int → Option β), idx [(u : Int), (v : Int)] (k : Int) q = q (w : Int)) ∧ w < n := by
      rcases (by omega : k = 0 ∨ k = 1) with rfl | rfl
      · exact ⟨u, fun q => i0D _ _ q, by omega⟩
      · exact ⟨v, fun q => i1D _ _ q, hv⟩
    obtain ⟨a', e, ha'⟩ := Ge.link ha (by omega) (u := w) (v := n) (by omega) (by omega) (by omega)
    simp only [F_spec_AddedVertex_l1, F_spec_l1Size]
    rw [if_pos (by simp; omega), hw, cal_some_eq, hl, cal_of e, ck_of (inI (by omega) (by omega))]
    exact ⟨a', rfl, ha'.gr, fun _ => ha'⟩
  · intro a ⟨_, ha⟩
    simp only [F_spec_AddedVertex_l1]
    rw [if_neg (by simp)]
    exact ⟨_, rfl, a, rfl, ha (by omega)⟩
theorem splitEdge_ex {g : List (List Int)} {n : Nat} {E : Nat → Nat → Prop} (h : Has g n E) (h16 : n < 16) {u v : Nat} (he : E u v) (huv : u < v) : ∃ g', F_spec_SplitEdge g (u : Int) (v : Int) = some (g', true) ∧ Ge g' (n + 1) := by
  obtain ⟨hu, hv, _, _⟩ := h.rng _ _ he
  have hl := h.len
  obtain ⟨hok, _⟩ := Gr.gok ⟨E, h⟩ (by omega) (by omega : n ≤ 16)
  have hr := Gr.row ⟨E, h⟩ (by omega : n ≤ 16)
  obtain ⟨g1, e1, h1⟩ := cutD_ex h (by omega) he
  obtain ⟨g2, e2, h2⟩ := addedVertex_ex h1 (by omega) h16 huv hv
  have hmem : (v : Int) ∈ g.getD u [] := by
    rw [show g.getD u [] = g[u] from by simp [show u < g.length by omega]]
    exact (h.mem u (by omega) _).2 ⟨v, rfl, he⟩
  unfold F_spec_SplitEdge F_spec_l1Size F_spec_l1Min F_spec_l1Max
  have huv' : (u : Int) < (v : Int) := by omega
  rw [cal_some_eq, cal_of (specEdgeIn_eq hok hr _ _), if_neg (by rw [decide_eq_true ⟨by omega, by omega, by rw [Int.toNat_natCast]; exact hmem⟩]; simp), if_neg (by omega), cal_of e1]
  have hmin : (if (u : Int) < (v : Int) then some (u : Int) else some (v : Int)) = some (u : Int) := if_pos huv'
  have hmax : (if (v : Int) < (u : Int) then some (u : Int) else some (v : Int)) = some (v : Int) := if_neg (by omega)
  first
    | rw [cal_of hmin, cal_of hmax, cal_of e2]
    | skip
  exact ⟨g2, rfl, h2⟩
theorem addedEdge_ex {g : List (List Int)} {n : Nat} (hg : Gr g n) (h1 : 1 ≤ n) (h16 : n ≤ 16) (u v : Int) : ∃ g' b, F_spec_AddedEdge g u v = some (g', b) ∧ (b = true → Ge g' n) := by
  obtain ⟨hok, hl⟩ := hg.gok h1 h16
  have hr := hg.row h16
  have ht : ∀ x : Int, F_spec_l1There g x = some (decide (0 ≤ x ∧ x ≤ (g.length : Int) - 1)) := fun x => by
    unfold F_spec_l1There F_spec_l1Size
    rw [cal_some_eq, ck_of (inI (by omega) (by omega)), l1In_eq, cal_some_eq]
  unfold F_spec_AddedEdge
  have hp : F_spec_l2Pair g u v = some (decide (((0 ≤ u ∧ u ≤ (g.length : Int) - 1) ∧ (0 ≤ v ∧ v ≤ (g.length : Int) - 1)) ∧ u ≠ v)) := by
    unfold F_spec_l2Pair
    rw [cal_of (specGraphOk_eq g hr), if_pos (by simp [hok]), cal_of (ht u)]
    by_cases c1 : 0 ≤ u ∧ u ≤ (g.length : Int) - 1
    · rw [if_pos (by simp [c1]), cal_of (ht v)]
      by_cases c2 : 0 ≤ v ∧ v ≤ (g.length : Int) - 1
      · rw [if_pos (by simp [c2])]; congr 1; rw [decide_eq_decide]; exact ⟨fun h => ⟨⟨c1, c2⟩, h⟩, fun h => h.2⟩
      · rw [if_neg (by simpa using c2)]; exact congrArg some (decide_eq_false (fun h => c2 h.1.2)).symm
    · rw [if_neg (by simpa using c1)]; exact congrArg some (decide_eq_false (fun h => c1 h.1.1)).symm
  rw [cal_of hp]
  by_cases c : ((0 ≤ u ∧ u ≤ (g.length : Int) - 1) ∧ (0 ≤ v ∧ v ≤ (g.length : Int) - 1)) ∧ u ≠ v
  case neg => rw [if_pos (by rw [decide_eq_false c]; simp)]; exact ⟨_, _, rfl, fun h => by cases h⟩
  rw [if_neg (by rw [decide_eq_true c]; simp)]
  obtain ⟨u, rfl⟩ := Int.eq_ofNat_of_zero_le c.1.1.1
  obtain ⟨v, rfl⟩ := Int.eq_ofNat_of_zero_le c.1.2.1
  obtain ⟨E, hE⟩ := hg
  classical
  rw [cal_of (l1Edge_ex hE h16 (u := u) (v := v) (by omega))]
  by_cases he : E u v
  · rw [if_pos (by simp [he])]; exact ⟨_, _, rfl, fun h => by cases h⟩
  · rw [if_neg (by simp [he]), cal_of (l1CopyGraph_eqG (by omega) hr)]
    obtain ⟨g', e, h'⟩ := Ge.link ⟨E, hE⟩ h16 (u := u) (v := v) (by omega) (by omega) (by omega)
    rw [cal_of e]
    exact ⟨g', true, rfl, fun _ => h'⟩
theorem renamed_ex {g : List (List Int)} {n : Nat} (hg : Gr g n) (h1 : 1 ≤ n) (h16 : n ≤ 16) {o : List Int} (ho : o.length ≤ 1048576) : ∃ g' b, F_spec_Renamed g o = some (g', b) ∧ (b = true → Gr g' n) := by
  obtain ⟨hok, hl⟩ := hg.gok h1 h16
  have hr := hg.row h16
  unfold F_spec_Renamed
  rw [cal_of (specOrderOk_eq g o (by omega) hr ho)]
  by_cases c : GOk g ∧ IsOrder g.length o
  case neg => rw [if_pos (by simpa using c)]; exact ⟨_, _, rfl, fun h => by cases h⟩
  rw [if_neg (by simpa using c)]
  have ho2 : o = ints (o.map Int.toNat) := by
    unfold ints
    rw [List.map_map]
    refine (List.map_id o).symm.trans (List.map_congr_left fun x hx => ?_)
    have := (c.2.2.1 x hx).1
    show x = ((x.toNat : Nat) : Int); omega
  obtain ⟨E, hE⟩ := hg
  obtain ⟨g', e, h'⟩ := of_ex hE h16 (L := o.map Int.toNat) (fun x hx => by
    obtain ⟨y, hy, rfl⟩ := List.mem_map.1 hx
    have := c.2.2.1 y hy; omega) (by rw [List.length_map, c.2.1]; omega)
  rw [← ho2] at e
  rw [cal_of e]
  have : (o.map Int.toNat).length = n := by rw [List.length_map, c.2.1, hl]
  exact ⟨g', true, rfl, fun _ => ⟨_, this ▸ h'⟩⟩
def PairsN (n : Nat) (l : List (List Int)) : Prop := ∀ e ∈ l, ∃ a b : Nat, e = [(a : Int), (b : Int)] ∧ a ≠ b ∧ a < n ∧ b < n
theorem PairsN.snoc {n : Nat} {l : List (List Int)} (h : PairsN n l) {a b : Nat} (hab : a ≠ b) (ha : a < n) (hb : b < n) : PairsN n (l ++ [[(a : Int), (b : Int)]]) := fun e he => by
  rcases List.mem_append.1 he with g | g
  · exact h e g
  · rw [List.mem_singleton] at g; exact ⟨a, b, g, hab, ha, hb⟩
theorem pairs_ex {k : Int} {p q : Nat} (hp : 2 ≤ p) (hp5 : p ≤ 5) (hq : q ≤ 3) (hs : F_spec_l23Sides k = some ((p : Int), (q : Int))) :
    ∃ l, F_spec_l23Pairs k = some l ∧ 0 < l.length ∧ l.length ≤ 100 ∧ PairsN (p + q) l := by
  unfold F_spec_l23Pairs
  rw [cal_of hs]
  have := lp_ex (step := fun s => F_spec_l23Pairs_l1 ((p : Int), (q : Int)) s.1 s.2) (fun (i : Nat) (l : List (List Int)) => (l, (i : Int))) p (fun i l => PairsN (p + q) l ∧ l.length ≤ 10 * i ∧ (0 < i → 0 < l.length)) (fun o => ∃ l, o = .inl l ∧ 0 < l.length ∧ l.length ≤ 100 ∧ PairsN (p + q) l) ?_ ?_ p 0 [] (by omega) ⟨fun e he => by simp at he, by simp, fun h => by omega⟩
  · obtain ⟨o, e, l, rfl, h⟩ := this
    have e' : lp (fun s => F_spec_l23Pairs_l1 ((p : Int), (q : Int)) s.1 s.2) ([], 0) = some (.inl l) := e
    rw [bnd_l e']
    exact ⟨l, rfl, h⟩
  · intro i l hi ⟨h1, h2, h3⟩
    have first : ∃ l1, (if (q : Int) = 0 then
        ck ((i : Int) + 1) (fun _ =>
          bnd (lp (fun s => F_spec_l23Pairs_l2 ((p : Int), (q : Int)) (i : Int) s.1 s.2) (l, (i : Int) + 1)) (fun j => F_spec_l23Pairs_k3 j))
      else
        some (.inl l)) = some (.inl l1) ∧ PairsN (p + q) l1 ∧ l1.length ≤ 10 * i + 5 ∧ (0 < i ∨ q = 0 → 0 < l1.length) := by
      by_cases hq0 : (q : Int) = 0
      · rw [if_pos hq0, ck_of (inI (by omega) (by omega))]
        have := lp_ex (step := fun s => F_spec_l23Pairs_l2 ((p : Int), (q : Int)) (i : Int) s.1 s.2) (fun (j : Nat) (l : List (List Int)) => (l, (i : Int) + 1 + (j : Int))) (p - (i + 1)) (fun j l => PairsN (p + q) l ∧ l.length ≤ 10 * i + j ∧ (0 < i + j → 0 < l.length)) (fun o => ∃ l, o = .inl l ∧ PairsN (p + q) l ∧ l.length ≤ 10 * i + 5 ∧ 0 < l.length) ?_ ?_ (p - (i + 1)) 0 l (by omega) ⟨h1, by omega, fun h => h3 (by omega)⟩
        · obtain ⟨o, e, l1, rfl, k1, k2, k3⟩ := this
          have e' : lp (fun s => F_spec_l23Pairs_l2 ((p : Int), (q : Int)) (i : Int) s.1 s.2) (l, (i : Int) + 1) = some (.inl l1) := by rw [← e]; simp
          rw [bnd_l e']
          exact ⟨l1, rfl, k1, k2, fun _ => k3⟩
        · intro j l2 hj ⟨m1, m2, m3⟩
          simp only [F_spec_l23Pairs_l2]
          rw [if_pos (by omega), app1_s (by omega), ck_of (inI (by omega) (by omega)), show (i : Int) + 1 + (j : Int) = ((i + 1 + j : Nat) : Int) by omega]
          exact ⟨_, inl_eq (pair_eq rfl (by omega)), m1.snoc (by omega) (by omega) (by omega), by simp; omega, fun _ => by simp⟩
        · intro l2 ⟨m1, m2, m3⟩
          simp only [F_spec_l23Pairs_l2]
          rw [if_neg (by omega)]
          exact ⟨_, rfl, l2, rfl, m1, by omega, m3 (by omega)⟩
      · rw [if_neg hq0]
        exact ⟨l, rfl, h1, by omega, fun h => h3 (by omega)⟩
    obtain ⟨l1, e1, m1, m2, m3⟩ := first
    have := lp_ex (step := fun s => F_spec_l23Pairs_l5 ((p : Int), (q : Int)) (i : Int) s.1 s.2) (fun (j : Nat) (l : List (List Int)) => (l, (j : Int))) q (fun j l => PairsN (p + q) l ∧ l.length ≤ 10 * i + 5 + j ∧ ((0 < i ∨ q = 0) ∨ 0 < j → 0 < l.length)) (fun o => ∃ l, o = .inl l ∧ PairsN (p + q) l ∧ l.length ≤ 10 * i + 10 ∧ 0 < l.length) ?_ ?_ q 0 l1 (by omega) ⟨m1, by omega, fun h => m3 (by omega)⟩
    · obtain ⟨o, e, l2, rfl, k1, k2, k3⟩ := this
      refine ⟨l2, ?_, k1, by omega, fun _ => k3⟩
      simp only [F_spec_l23Pairs_l1]
      rw [if_pos (by omega), bnd_l e1]
      unfold F_spec_l23Pairs_k4
      have e' : lp (fun s => F_spec_l23Pairs_l5 ((p : Int), (q : Int)) (i : Int) s.1 s.2) (l1, 0) = some (.inl l2) := e
      rw [bnd_l e']
      unfold F_spec_l23Pairs_k6
      rw [ck_of (inI (by omega) (by omega))]; rfl
    · intro j l2 hj ⟨n1, n2, n3⟩
      simp only [F_spec_l23Pairs_l5]
      rw [if_pos (by omega), ck_of (inI (by omega) (by omega)), app1_s (by omega), ck_of (inI (by omega) (by omega)), show (p : Int) + (j : Int) = ((p + j : Nat) : Int) by omega]
      exact ⟨_, rfl, n1.snoc (by omega) (by omega) (by omega), by simp; omega, fun _ => by simp⟩
    · intro l2 ⟨n1, n2, n3⟩
      simp only [F_spec_l23Pairs_l5]
      rw [if_neg (by omega)]
      exact ⟨_, rfl, l2, rfl, n1, by omega, n3 (by omega)⟩
  · intro l ⟨h1, h2, h3⟩
    simp only [F_spec_l23Pairs_l1]
    rw [if_neg (by omega)]
    exact ⟨_, rfl, l, rfl, h3 (by omega), by omega, h1⟩
theorem patternOf_ex {k : Int} (h1 : 1 ≤ k) (h4 : k ≤ 4) : ∃ g n, F_spec_PatternOf k = some g ∧ Ge g n ∧ 1 ≤ n ∧ n ≤ 6 := by
  obtain ⟨p, q, hs, hp, hp5, hq, hpq⟩ : ∃ p q : Nat, F_spec_l23Sides k = some ((p : Int), (q : Int)) ∧ 2 ≤ p ∧ p ≤ 5 ∧ q ≤ 3 ∧ p + q ≤ 6 := by
    unfold F_spec_l23Sides
    rcases (by omega : k = 1 ∨ k = 2 ∨ k = 3 ∨ k = 4) with rfl | rfl | rfl | rfl
    · exact ⟨5, 0, rfl, by omega, by omega, by omega, by omega⟩
    · exact ⟨3, 3, rfl, by omega, by omega, by omega, by omega⟩
    · exact ⟨4, 0, rfl, by omega, by omega, by omega, by omega⟩
    · exact ⟨2, 3, rfl, by omega, by omega, by omega, by omega⟩
  obtain ⟨L, eL, hL0, hL1, hL⟩ := pairs_ex hp hp5 hq hs
  unfold F_spec_PatternOf
  have hem := l1Empty_eqD (n := p + q) (by omega)
  rw [show ((p + q : Nat) : Int) = (p : Int) + (q : Int) by omega] at hem
  rw [cal_of hs, if_neg (by dsimp only; omega), ck_of (inI (by dsimp only; omega) (by dsimp only; omega)), cal_of hem, cal_of eL]
  have := lp_ex (step := fun s => F_spec_PatternOf_l1 s.1 s.2.1 s.2.2) (fun (i : Nat) (g : List (List Int)) => (g, L, (i : Int))) L.length (fun i g => Gr g (p + q) ∧ (0 < i → Ge g (p + q))) (fun o => ∃ g, o = .inl g ∧ Ge g (p + q)) ?_ ?_ L.length 0 (List.replicate (p + q) []) (by omega) ⟨⟨_, has_empty _⟩, fun h => by omega⟩
  · obtain ⟨o, e, g, rfl, hg⟩ := this
    have e' : lp (fun s => F_spec_PatternOf_l1 s.1 s.2.1 s.2.2) (List.replicate (p + q) [], L, 0) = some (.inl g) := e
    rw [bnd_l e']
    exact ⟨g, p + q, rfl, hg, by omega, hpq⟩
  · intro i g hi ⟨hg, _⟩
    obtain ⟨a, b, e, hab, ha, hb⟩ := hL _ (List.getElem_mem hi)
    obtain ⟨g', e2, hg'⟩ := Ge.link hg (by omega) ha hb hab
    simp only [F_spec_PatternOf_l1]
    rw [if_pos (by omega), idx_nat hi, e, i0D, idx_nat hi, e, i1D, cal_of e2, ck_of (inI (by omega) (by omega))]
    exact ⟨g', rfl, hg'.gr, fun _ => hg'⟩
  · intro g ⟨_, hg⟩
    simp only [F_spec_PatternOf_l1]
    rw [if_neg (by omega)]
    exact ⟨_, rfl, g, rfl, hg (by omega)⟩
theorem l23Draw_ex {d : List (BitVec 8) × Int × Int} (h : KOk d) : ∃ g d', F_spec_l23Draw d = some (g, d') ∧ Short g ∧ KOk d' := by
  unfold F_spec_l23Draw
  obtain ⟨b, d1, e1, k1⟩ := l1Once_ex h (n := 2) (by omega)
  rw [cal_of e1]
  dsimp only
  by_cases hb : b = true
  · rw [if_pos hb]
    obtain ⟨g, d2, e2, hg, k2⟩ := l1DrawAny_ex k1
    rw [cal_of e2]
    exact ⟨g, d2, rfl, hg, k2⟩
  rw [if_neg hb]
  obtain ⟨x, d2, e2, x0, x1, x2, k2⟩ := l1Below_ex k1 (n := 4) (by omega)
  have x3 := x2 (by omega)
  obtain ⟨g0, n0, e3, hg0, hn1, hn6⟩ := patternOf_ex (k := 1 + x) (by omega) (by omega)
  obtain ⟨y, d3, e4, y0, y1, y2, k3⟩ := l1Below_ex k2 (n := 3) (by omega)
  rw [cal_of e2]
  dsimp only
  rw [ck_of (inI (by omega) (by omega)), cal_of e3, cal_of e4]
  dsimp only
  obtain ⟨o, eo, d4, g1, n1, rfl, hg1, hn11, hn17, k4⟩ := lp_rule (step := fun s => F_spec_l23Draw_l1 s.1 s.2.1 s.2.2) (fun s => (KOk s.1 ∧ s.2.2 ≤ 3) ∧ ∃ n, Ge s.2.1 n ∧ 1 ≤ n ∧ n ≤ 7) (fun s => s.2.2.toNat) (fun o => ∃ d g n, o = .inl (d, g) ∧ Ge g n ∧ 1 ≤ n ∧ n ≤ 7 ∧ KOk d) (by
    rintro ⟨da, g, i⟩ ⟨⟨ka, hi3⟩, n, hg, hn1, hn7⟩
    dsimp only at ka hg hi3
    simp only [F_spec_l23Draw_l1, F_spec_l1Size]
    by_cases hi : 0 < i
    case neg => rw [if_neg hi]; exact .inr ⟨_, rfl, da, g, n, rfl, hg, hn1, hn7, ka⟩
    obtain ⟨hok, hl⟩ := hg.gr.gok hn1 (by omega)
    rw [if_pos hi, cal_some_eq]
    by_cases h7 : (g.length : Int) < 7
    case neg => rw [if_neg h7]; exact .inr ⟨_, rfl, da, g, n, rfl, hg, hn1, hn7, ka⟩
    obtain ⟨z, db, e5, kb, E, u, v, hE, he, huv, hix⟩ := edge_ex ka hg hn1 (by omega)
    obtain ⟨g', e6, hg'⟩ := splitEdge_ex hE (by omega) he huv
    rw [if_pos h7, cal_of (l1Edges_eq hok), cal_of e5]
    dsimp only
    rw [hix, i0D, i1D, cal_of e6]
    rw [ck_of (inI (by omega) (by omega))]
    exact .inl ⟨_, rfl, ⟨⟨kb, by dsimp only; omega⟩, n + 1, hg', by omega, by omega⟩, by dsimp only; omega⟩) (d3, g0, y) ⟨⟨k3, by dsimp only; omega⟩, n0, hg0, hn1, by omega⟩
  rw [bnd_l eo]
  unfold F_spec_l23Draw_k2
  dsimp only
  have st2 : ∃ d5 g2, (
    cal (F_spec_l1Once d4 3) (fun x725 =>
      if x725.1 = true then
        cal (F_spec_l1Size g1) (fun x736 =>
          cal (F_spec_l1Below x725.2 x736) (fun x743 =>
            cal (F_spec_l1Size g1) (fun x754 =>
              cal (F_spec_l1Below x743.2 x754) (fun x761 =>
                cal (F_spec_AddedEdge g1 x743.1 x761.1) (fun x772 =>
                  if x772.2 = true then
                    some (.inl (x761.2, x772.1))
                  else
                    some (.inl (x761.2, g1)))))))
      else
        some (.inl (x725.2, g1)))) = (some (.inl (d5, g2)) : Option (((List (BitVec 8) × Int × Int) × List (List Int)) ⊕ (List (List Int) × (List (BitVec 8) × Int × Int)))) ∧ Ge g2 n1 ∧ KOk d5 := by
    obtain ⟨b, d5, e5, k5⟩ := l1Once_ex k4 (n := 3) (by omega)
    rw [cal_of e5]
    dsimp only
    by_cases hb : b = true
    case neg => rw [if_neg hb]; exact ⟨d5, g1, rfl, hg1, k5⟩
    obtain ⟨hok, hl⟩ := hg1.gr.gok hn11 (by omega)
    unfold F_spec_l1Size
    obtain ⟨u, d6, e6, _, _, _, k6⟩ := l1Below_ex k5 (n := (g1.length : Int)) (by omega)
    obtain ⟨v, d7, e7, _, _, _, k7⟩ := l1Below_ex k6 (n := (g1.length : Int)) (by omega)
    obtain ⟨g2, r, e8, h8⟩ := addedEdge_ex hg1.gr hn11 (by omega) u v
    rw [if_pos hb, cal_some_eq, cal_of e6, cal_some_eq, cal_of e7]
    dsimp only
    rw [cal_of e8]
    dsimp only
    by_cases hr : r = true
    · rw [if_pos hr]; exact ⟨d7, g2, rfl, h8 hr, k7⟩
    · rw [if_neg hr]; exact ⟨d7, g1, rfl, hg1, k7⟩
  obtain ⟨d5, g2, e5, hg2, k5⟩ := st2
  rw [bnd_l e5]
  unfold F_spec_l23Draw_k3
  dsimp only
  have st3 : ∃ d6 g3, (
    cal (F_spec_l1Once d5 3) (fun x964 =>
      if x964.1 = true then
        cal (F_spec_l1Edges g2) (fun x975 =>
          cal (F_spec_l1Below x964.2 (x975.length : Int)) (fun x1002 =>
            idx x975 x1002.1 (fun x1010 =>
              idx x1010 0 (fun x1030 =>
                idx x1010 1 (fun x1042 =>
                  cal (F_spec_CutEdge g2 x1030 x1042) (fun xqr5o7_1 =>
                    some (.inl (x1002.2, xqr5o7_1.1))))))))
      else
        some (.inl (x964.2, g2)))) = (some (.inl (d6, g3)) : Option (((List (BitVec 8) × Int × Int) × List (List Int)) ⊕ (List (List Int) × (List (BitVec 8) × Int × Int)))) ∧ Gr g3 n1 ∧ KOk d6 := by
    obtain ⟨b, d6, e6, k6⟩ := l1Once_ex k5 (n := 3) (by omega)
    rw [cal_of e6]
    dsimp only
    by_cases hb : b = true
    case neg => rw [if_neg hb]; exact ⟨d6, g2, rfl, hg2.gr, k6⟩
    obtain ⟨hok, hl⟩ := hg2.gr.gok hn11 (by omega)
    obtain ⟨z, db, e7, kb, E, u, v, hE, he, huv, hix⟩ := edge_ex k6 hg2 hn11 (by omega)
    obtain ⟨g', e8, hg'⟩ := cutD_ex hE (by omega) he
    rw [if_pos hb, cal_of (l1Edges_eq hok), cal_of e7]
    dsimp only
    rw [hix, i0D, i1D, cal_of e8]
    exact ⟨db, g', rfl, hg', kb⟩
  obtain ⟨d6, g3, e6, hg3, k6⟩ := st3
  rw [bnd_l e6]
  unfold F_spec_l23Draw_k4
  dsimp only
  have hs3 := hg3.short (by omega)
  obtain ⟨b, d7, e7, k7⟩ := l1Once_ex k6 (n := 2) (by omega)
  rw [cal_of e7]
  dsimp only
  by_cases hb : b = true
  case neg => rw [if_neg hb]; exact ⟨g3, d7, rfl, hs3, k7⟩
  obtain ⟨o, d8, e8, ho, k8⟩ := drawOrder_ex k7 hs3.1
  obtain ⟨g4, r, e9, h9⟩ := renamed_ex hg3 hn11 (by omega) (o := o) (by have := hs3.1; omega)
  rw [if_pos hb, cal_of e8]
  dsimp only
  rw [cal_of e9]
  dsimp only
  by_cases hr : r = true
  · rw [if_pos hr]; exact ⟨g4, d8, rfl, (h9 hr).short (by omega), k8⟩
  · rw [if_neg hr]; exact ⟨g3, d8, rfl, hs3, k8⟩
theorem l24Draw_ex {d : List (BitVec 8) × Int × Int} (h : KOk d) : ∃ g d', F_spec_l24Draw d = some (g, d') ∧ Short g ∧ KOk d' := by
  unfold F_spec_l24Draw
  obtain ⟨b, d1, e1, k1⟩ := l1Once_ex h (n := 3) (by omega)
  rw [cal_of e1]
  dsimp only
  by_cases hb : b = true
  · rw [if_pos hb]
    obtain ⟨g, d2, e2, hg, k2⟩ := l23Draw_ex k1
    rw [cal_of e2]
    exact ⟨g, d2, rfl, hg, k2⟩
  rw [if_neg hb]
  obtain ⟨x, d2, e2, x0, x1, x2, k2⟩ := l1Below_ex k1 (n := 4) (by omega)
  have x3 := x2 (by omega)
  obtain ⟨x, rfl⟩ := Int.eq_ofNat_of_zero_le x0
  have hem := l1Empty_eqD (n := 3 + x) (by omega)
  rw [show ((3 + x : Nat) : Int) = 3 + (x : Int) by omega] at hem
  obtain ⟨o, d3, e3, ho, k3⟩ := drawOrder_ex k2 (g := List.replicate (3 + x) []) (by simp; omega)
  rw [List.length_replicate] at ho
  obtain ⟨y, d4, e4, y0, y1, y2, k4⟩ := l1Below_ex k3 (n := 9) (by omega)
  have y3 := y2 (by omega)
  rw [cal_of e2]
  dsimp only
  rw [ck_of (inI (by omega) (by omega)), cal_of hem, cal_of e3]
  dsimp only
  rw [cal_of e4]
  dsimp only
  obtain ⟨r, eo, d5, g1, rfl, hg1, k5⟩ := lp_rule (step := fun s => F_spec_l24Draw_l1 ((x : Int), d2) (o, d3) s.1 s.2.1 s.2.2) (fun s => (KOk s.1 ∧ s.2.2 ≤ 9) ∧ Gr s.2.1 (3 + x)) (fun s => s.2.2.toNat) (fun r => ∃ d g, r = .inl (g, d) ∧ Gr g (3 + x) ∧ KOk d) (by
    rintro ⟨da, g, i⟩ ⟨⟨ka, hi9⟩, hg⟩
    dsimp only at ka hg hi9
    simp only [F_spec_l24Draw_l1]
    by_cases hi : 0 < i
    case neg => rw [if_neg hi]; exact .inr ⟨_, rfl, da, g, rfl, hg, ka⟩
    obtain ⟨u, d6, e6, u0, u1, u2, k6⟩ := l1Below_ex ka (n := 3 + (x : Int)) (by omega)
    have u3 := u2 (by omega)
    obtain ⟨u, rfl⟩ := Int.eq_ofNat_of_zero_le u0
    obtain ⟨v, d7, e7, v0, v1, v2, k7⟩ := l1Below_ex k6 (n := 2) (by omega)
    have v3 := v2 (by omega)
    obtain ⟨v, rfl⟩ := Int.eq_ofNat_of_zero_le v0
    have hm : ((u : Int) + 1 + (v : Int)) % (3 + (x : Int)) = (((u + 1 + v) % (3 + x) : Nat) : Int) := by
      rw [Int.natCast_emod, show ((u + 1 + v : Nat) : Int) = (u : Int) + 1 + (v : Int) by omega, show ((3 + x : Nat) : Int) = 3 + (x : Int) by omega]
    have hlt : (u + 1 + v) % (3 + x) < 3 + x := Nat.mod_lt _ (by omega)
    rw [if_pos hi, cal_of e6]
    dsimp only
    rw [idx_nat (show u < o.length by omega), ck_of (inI (by omega) (by omega)), cal_of e7]
    dsimp only
    rw [ck_of (inI (by omega) (by omega)), grd_of ⟨by omega, by omega⟩, hm, idx_nat (show (u + 1 + v) % (3 + x) < o.length by omega)]
    obtain ⟨g2, r, e8, h8⟩ := addedEdge_ex hg (by omega) (by omega) o[u] (o[(u + 1 + v) % (3 + x)]'(by omega))
    rw [cal_of e8]
    dsimp only
    by_cases hr : r = true
    · rw [if_pos hr, ck_of (inI (by omega) (by omega))]
      exact .inl ⟨_, rfl, ⟨⟨k7, by dsimp only; omega⟩, (h8 hr).gr⟩, by dsimp only; omega⟩
    · rw [if_neg hr, ck_of (inI (by omega) (by omega))]
      exact .inl ⟨_, rfl, ⟨⟨k7, by dsimp only; omega⟩, hg⟩, by dsimp only; omega⟩) (d4, List.replicate (3 + x) [], y) ⟨⟨k4, by dsimp only; omega⟩, _, has_empty _⟩
  rw [bnd_l eo]
  exact ⟨g1, d5, rfl, hg1.short (by omega), k5⟩
theorem l24DrawRing_ex {d : List (BitVec 8) × Int × Int} (h : KOk d) : ∃ g o d', F_spec_l24DrawRing d = some (g, o, d') ∧ Short g ∧ o.length ≤ 1048576 ∧ KOk d' := by
  unfold F_spec_l24DrawRing
  obtain ⟨g, d1, e1, hg, k1⟩ := l24Draw_ex h
  obtain ⟨o, d2, e2, ho, k2⟩ := drawOrder_ex k1 hg.1
  have hgl := hg.1
  have hgr : ∀ x ∈ g, x.length ≤ 1048576 := fun x hx => by have := hg.2 x hx; omega
  rw [cal_of e1]
  dsimp only
  rw [cal_of e2]
  dsimp only
  have rest : ∀ d3, KOk d3 → ∃ g' o' d', F_spec_l24DrawRing_k1 (g, d1) (o, d2) d3 = some (g', o', d') ∧ Short g' ∧ o'.length ≤ 1048576 ∧ KOk d' := by
    intro d3 k3
    unfold F_spec_l24DrawRing_k1
    dsimp only
    obtain ⟨r, er, hr⟩ := lp_rule (step := fun s => F_spec_l24DrawRing_l2 (o, d2) s.1 s.2.1 s.2.2) (fun s => KOk s.1 ∧ s.2.1 = g ∧ ∃ i : Nat, s.2.2 = (i : Int) ∧ i ≤ o.length) (fun s => o.length - s.2.2.toNat) (fun r => (∃ d, r = .inl (g, d) ∧ KOk d) ∨ ∃ o' d, r = .inr (g, o', d) ∧ o'.length ≤ 1048576 ∧ KOk d) (by
      rintro ⟨da, g', i'⟩ ⟨ka, rfl, i, rfl, hi⟩
      dsimp only at ka
      simp only [F_spec_l24DrawRing_l2]
      by_cases hlt : (i : Int) < (o.length : Int)
      case neg => rw [if_neg hlt]; exact .inr ⟨_, rfl, .inl ⟨da, rfl, ka⟩⟩
      obtain ⟨b, db, e5, kb⟩ := l1Once_ex ka (n := 10) (by omega)
      rw [if_pos hlt, cal_of e5]
      dsimp only
      by_cases hb : b = true
      case pos => rw [if_neg (by simpa using hb)]; exact .inr ⟨_, rfl, .inl ⟨db, rfl, kb⟩⟩
      rw [if_pos hb, idx_nat (show i < o.length by omega)]
      by_cases h0 : o[i]'(by omega) = 0
      · have z : ((0 : Int)).toNat = 0 := rfl
        have hd : ((o.drop i).take (o.length - i)).length ≤ 20 := by simp; omega
        have ht : (o.take i).length ≤ 20 := by simp; omega
        rw [if_pos h0, slc_of (by omega), slc_of (by omega)]
        simp only [z, List.drop_zero, Nat.sub_zero, Int.toNat_natCast]
        rw [cal_of (l1Copy_eqD (by omega)), app_s (by omega)]
        exact .inr ⟨_, rfl, .inr ⟨_, _, rfl, by rw [List.length_append]; omega, kb⟩⟩
      · rw [if_neg h0, ck_of (inI (by omega) (by omega))]
        exact .inl ⟨_, rfl, ⟨kb, rfl, i + 1, rfl, by omega⟩, by dsimp only; omega⟩) (d3, g, 0) ⟨k3, rfl, 0, rfl, by omega⟩
    rcases hr with ⟨d, rfl, kd⟩ | ⟨o', d, rfl, ho', kd⟩
    · rw [bnd_l er]; exact ⟨g, o, d, rfl, hg, by omega, kd⟩
    · rw [bnd_r er]; exact ⟨g, o', d, rfl, hg, ho', kd⟩
  obtain ⟨b, d3, e3, k3⟩ := l1Once_ex k2 (n := 3) (by omega)
  rw [cal_of e3]
  dsimp only
  by_cases hb : b = true
  case neg =>
    rw [if_neg hb, bnd_l rfl]
    exact rest d3 k3
  rw [if_pos hb, cal_of (specOuterRing_eq g (by omega) hgr)]
  by_cases hr : (resOuterRing g).2 = true
  · rw [if_pos hr, bnd_r rfl]
    exact ⟨g, _, d3, rfl, hg, resOuterRing_small g (by omega) hgr, k3⟩
  · rw [if_neg hr, bnd_l rfl]
    exact rest d3 k3
theorem drawChords_ex {code : List (BitVec 8)} (h : code.length ≤ 4096) : ∃ g o e f, F_spec_DrawChordsCross code = some (g, o, e, f) ∧ Short g ∧ o.length ≤ 1048576 ∧ e.length ≤ 1048576 ∧ f.length ≤ 1048576 := by
  unfold F_spec_DrawChordsCross
  obtain ⟨d0, e0, k0⟩ := l1New_ex h
  obtain ⟨g, o, d1, e1, hg, ho, k1⟩ := l24DrawRing_ex k0
  have hgl := hg.1
  have hgr : ∀ x ∈ g, x.length ≤ 1048576 := fun x hx => by have := hg.2 x hx; omega
  obtain ⟨E, eE, hE, hEl⟩ : ∃ E, F_spec_EdgesOf g = some E ∧ E.length ≤ 256 ∧ ∀ e ∈ E, e.length ≤ 1048576 := by
    by_cases hok : GOk g
    · obtain ⟨a, b⟩ := edgesOf_ex hok
      exact ⟨_, a, b, fun e he => by obtain ⟨x, y, rfl, _⟩ := edges_pair hok he; simp⟩
    · unfold F_spec_EdgesOf
      rw [cal_of (specGraphOk_eq g hgr), if_pos (by simp [hok])]
      exact ⟨_, rfl, by simp, fun e he => by simp at he⟩
  rw [cal_of e0, cal_of e1]
  dsimp only
  rw [cal_of eE]
  have two : ∀ d2, KOk d2 → ∃ g' o' e f, (cal (F_spec_l1From d2 (-1) 5) (fun xqr3o3_1 =>
            cal (F_spec_l1From xqr3o3_1.2 (-1) 5) (fun xqr3o5_1 =>
              some (g, o, [xqr3o3_1.1, xqr3o5_1.1], [(1 : Int), 2])))) = some (g', o', e, f) ∧ Short g' ∧ o'.length ≤ 1048576 ∧ e.length ≤ 1048576 ∧ f.length ≤ 1048576 := by
    intro d2 k2
    obtain ⟨x, d3, e3, k3⟩ := l1From_ex k2 (a := -1) (b := 5) (by omega) (by omega) (by omega)
    obtain ⟨y, d4, e4, k4⟩ := l1From_ex k3 (a := -1) (b := 5) (by omega) (by omega) (by omega)
    rw [cal_of e3]
    dsimp only
    rw [cal_of e4]
    exact ⟨g, o, _, _, rfl, hg, ho, by simp, by simp⟩
  by_cases h0 : (E.length : Int) = 0
  · rw [if_pos h0]; exact two d1 k1
  rw [if_neg h0]
  obtain ⟨b, d2, e2, k2⟩ := l1Once_ex k1 (n := 8) (by omega)
  rw [cal_of e2]
  dsimp only
  by_cases hb : b = true
  · rw [if_pos hb]; exact two d2 k2
  rw [if_neg hb]
  obtain ⟨i, d3, e3, i0, _, i2, k3⟩ := l1Below_ex k2 (n := (E.length : Int)) (by omega)
  have i3 := i2 (by omega)
  obtain ⟨i, rfl⟩ := Int.eq_ofNat_of_zero_le i0
  obtain ⟨j, d4, e4, j0, _, j2, k4⟩ := l1Below_ex k3 (n := (E.length : Int)) (by omega)
  have j3 := j2 (by omega)
  obtain ⟨j, rfl⟩ := Int.eq_ofNat_of_zero_le j0
  rw [cal_of e3]
  dsimp only
  rw [idx_nat (show i < E.length by omega), cal_of e4]
  dsimp only
  rw [idx_nat (show j < E.length by omega)]
  exact ⟨g, o, _, _, rfl, hg, ho, hEl _ (List.getElem_mem _), hEl _ (List.getElem_mem _)⟩
end Go.Proofs.YtbefgidkaepmmaaGreatDoor

/- FnExactLeastCrossings: the plain law. -/
namespace Go.Proofs.YtbefgidkaepmmaaGreatDoor
open Classical in
noncomputable def resLeastCrossings (g : List (List Int)) : List Int × Int := if GOk g ∧ g.length ≤ 8 then bestR g else ([], -1)
theorem specLeastCrossings_eq (g : List (List Int)) (hgl : g.length ≤ 1048576) (hl : ∀ x ∈ g, x.length ≤ 1048576) : F_spec_LeastCrossings g = some (resLeastCrossings g) := by
  unfold F_spec_LeastCrossings resLeastCrossings
  rw [cal_of (l26Small_eq2 g hl)]
  by_cases h : GOk g ∧ g.length ≤ 8
  · rw [if_neg (by simpa using h), cal_of (l24Least_eq h.1), if_pos h]
  · rw [if_pos (by simpa using h), if_neg h]
theorem implLeastCrossings_eq (g : List (List Int)) (hgl : g.length ≤ 1048576) (hl : ∀ x ∈ g, x.length ≤ 1048576) : F_impl_LeastCrossings g = some (resLeastCrossings g) := by
  unfold F_impl_LeastCrossings resLeastCrossings
  rw [cal_of (isSmall_eq2 g hgl hl)]
  by_cases h : GOk g ∧ g.length ≤ 8
  · rw [if_neg (by simpa using h), cal_of (leastRing_eq h.1), if_pos h]
  · rw [if_pos (by simpa using h), if_neg h]
theorem resLeastCrossings_small (g : List (List Int)) (hgl : g.length ≤ 1048576) (hl : ∀ x ∈ g, x.length ≤ 1048576) : (resLeastCrossings g).1.length ≤ 1048576 := by
  unfold resLeastCrossings
  split
  · rename_i h; exact bestR_small h.1
  · simp
end Go.Proofs.YtbefgidkaepmmaaGreatDoor

/- FnExactCrossingsOf: the plain law. -/
namespace Go.Proofs.YtbefgidkaepmmaaGreatDoor
open Classical in
noncomputable def resCrossingsOf (g : List (List Int)) (o : List Int) : Int := if RingIs g o then (crossings o (edges g) : Int) else -1
theorem specCrossingsOf_eq (g : List (List Int)) (o : List Int) (hgl : g.length ≤ 1048576) (hl : ∀ x ∈ g, x.length ≤ 1048576) (ho : o.length ≤ 1048576) : F_spec_CrossingsOf g o = some (resCrossingsOf g o) := by
  unfold F_spec_CrossingsOf resCrossingsOf
  rw [cal_of (specRingOk_eq g o hgl hl ho)]
  by_cases h : RingIs g o
  case neg => rw [if_pos (by simpa using h), if_neg h]
  have hg := h.1.1
  rw [if_neg (by simpa using h), if_pos h, cal_of (l1Edges_eq hg), cal_of (l24Crossings_eq h.1.2 hg.n16 (fun e he => edges_pair hg he) (edges_len256 hg))]
theorem implCrossingsOf_eq (g : List (List Int)) (o : List Int) (hgl : g.length ≤ 1048576) (hl : ∀ x ∈ g, x.length ≤ 1048576) (ho : o.length ≤ 1048576) : F_impl_CrossingsOf g o = some (resCrossingsOf g o) := by
  unfold F_impl_CrossingsOf resCrossingsOf
  rw [cal_of (implRingOk_eq g o hgl hl ho)]
  by_cases h : RingIs g o
  case neg => rw [if_pos (by simpa using h), if_neg h]
  have hg := h.1.1
  rw [if_neg (by simpa using h), if_pos h, cal_of (edgesOf_eq hg), cal_of (crossingsOn_eq h.1.2 hg.n1 hg.n16 (fun e he => edges_pair hg he) (edges_len256 hg))]
end Go.Proofs.YtbefgidkaepmmaaGreatDoor

/- FnExactChordsCross: the plain law. -/
namespace Go.Proofs.YtbefgidkaepmmaaGreatDoor
def ChordsIs (g : List (List Int)) (o e f : List Int) : Prop := RingIs g o ∧ EdgeOk g e ∧ EdgeOk g f ∧ Crosses o e f
open Classical in
theorem specChordsCross_eq (g : List (List Int)) (o e f : List Int) (hgl : g.length ≤ 1048576) (hl : ∀ x ∈ g, x.length ≤ 1048576) (ho : o.length ≤ 1048576) (he : e.length ≤ 1048576) (hf : f.length ≤ 1048576) : F_spec_ChordsCross g o e f = some (decide (ChordsIs g o e f)) := by
  unfold F_spec_ChordsCross
  rw [cal_of (specRingOk_eq g o hgl hl ho)]
  by_cases h : RingIs g o
  case neg => rw [if_neg (by simpa using h)]; exact congrArg some (decide_eq_false (fun k => h k.1)).symm
  have hg := h.1.1
  rw [if_pos (by simpa using h), cal_of (l24Edge_eq hg hl e)]
  by_cases h1 : EdgeOk g e
  case neg => rw [if_neg (by simpa using h1)]; exact congrArg some (decide_eq_false (fun k => h1 k.2.1)).symm
  rw [if_pos (by simpa using h1), cal_of (l24Edge_eq hg hl f)]
  by_cases h2 : EdgeOk g f
  case neg => rw [if_neg (by simpa using h2)]; exact congrArg some (decide_eq_false (fun k => h2 k.2.2.1)).symm
  rw [if_pos (by simpa using h2), cal_of (l24Places_eq h.1.2 hg.n16), cal_of (l24Cross_eq h.1.2 (h1.pair hg) (h2.pair hg))]
  congr 1
  rw [decide_eq_decide]
  exact ⟨fun k => ⟨h, h1, h2, k⟩, fun k => k.2.2.2⟩
open Classical in
theorem implChordsCross_eq (g : List (List Int)) (o e f : List Int) (hgl : g.length ≤ 1048576) (hl : ∀ x ∈ g, x.length ≤ 1048576) (ho : o.length ≤ 1048576) (he : e.length ≤ 1048576) (hf : f.length ≤ 1048576) : F_impl_ChordsCross g o e f = some (decide (ChordsIs g o e f)) := by
  unfold F_impl_ChordsCross
  rw [cal_of (implRingOk_eq g o hgl hl ho)]
  by_cases h : RingIs g o
  case neg => rw [if_pos (by simpa using h)]; exact congrArg some (decide_eq_false (fun k => h k.1)).symm
  have hg := h.1.1
  rw [if_neg (by simpa using h), cal_of (isEdge_eq hg hgl hl e)]
  by_cases h1 : EdgeOk g e
  case neg => rw [if_pos (by simpa using h1)]; exact congrArg some (decide_eq_false (fun k => h1 k.2.1)).symm
  rw [if_neg (by simpa using h1), cal_of (isEdge_eq hg hgl hl f)]
  by_cases h2 : EdgeOk g f
  case neg => rw [if_pos (by simpa using h2)]; exact congrArg some (decide_eq_false (fun k => h2 k.2.2.1)).symm
  rw [if_neg (by simpa using h2), cal_of (placesIn_eq h.1.2 hg.n1 hg.n16), cal_of (alternate_eq h.1.2 (h1.pair hg) (h2.pair hg))]
  congr 1
  rw [decide_eq_decide]
  exact ⟨fun k => ⟨h, h1, h2, k⟩, fun k => k.2.2.2⟩
end Go.Proofs.YtbefgidkaepmmaaGreatDoor

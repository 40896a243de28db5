/- FnCrossings: the plain law. -/
import Derived.Test.YtbefgidkaepmmaaGreatDoorP2
namespace Go.Proofs.YtbefgidkaepmmaaGreatDoor
/-- a full ring -/
def FullR (n : Nat) (p : List Int) : Prop := IsOrder n p ∧ p.getD 0 0 = 0
/-- what is kept is nothing, or a ring with its number -/
def SOk (E : List (List Int)) (n : Nat) (s : List Int × Int) : Prop := s.2 = -1 ∨ (FullR n s.1 ∧ s.2 = (crossings s.1 E : Int))
theorem SOk.ge {E : List (List Int)} {n : Nat} {s : List Int × Int} (h : SOk E n s) : s.2 = -1 ∨ 0 ≤ s.2 := by
  rcases h with h | ⟨_, h⟩
  · exact .inl h
  · exact .inr (by omega)
theorem goR_best {E : List (List Int)} {n : Nat} : ∀ (d : Nat) (o : List Int) (s : List Int × Int), o.length + d = n → PartR n o → 0 < o.length → o.getD 0 0 = 0 → SOk E n s →
    SOk E n (goR E n d o s) ∧ (0 ≤ s.2 → 0 ≤ (goR E n d o s).2 ∧ (goR E n d o s).2 ≤ s.2) ∧ ∀ t, IsOrder n (o ++ t) → 0 ≤ (goR E n d o s).2 ∧ (goR E n d o s).2 ≤ (crossings (o ++ t) E : Int)
  | 0, o, s, hd, hp, h0, hz, hs => by
    have hn : ∀ t, IsOrder n (o ++ t) → t = [] := fun t ht => List.eq_nil_of_length_eq_zero (by have := ht.1; rw [List.length_append] at this; omega)
    rw [goR, leafR]
    by_cases c0 : s.2 = 0
    · rw [if_pos c0]
      exact ⟨hs, fun h => ⟨h, Int.le_refl _⟩, fun t _ => by omega⟩
    · rw [if_neg c0]
      by_cases c1 : s.2 < 0 ∨ (crossings o E : Int) < s.2
      · rw [if_pos c1]
        refine ⟨.inr ⟨⟨⟨by omega, hp.1, hp.2⟩, hz⟩, rfl⟩, fun h => ?_, fun t ht => ?_⟩
        · dsimp only; omega
        · rw [hn t ht, List.append_nil]; dsimp only; omega
      · rw [if_neg c1]
        refine ⟨hs, fun h => ⟨h, Int.le_refl _⟩, fun t ht => ?_⟩
        rw [hn t ht, List.append_nil]; omega
  | d + 1, o, s, hd, hp, h0, hz, hs => by
    rw [goR]
    have key : ∀ (l : List Nat) (s : List Int × Int), (∀ v ∈ l, v < n) → SOk E n s →
        SOk E n (l.foldl (fun s (v : Nat) => if (v : Int) ∈ o then s else goR E n d (o ++ [(v : Int)]) s) s) ∧
        (0 ≤ s.2 → 0 ≤ (l.foldl (fun s (v : Nat) => if (v : Int) ∈ o then s else goR E n d (o ++ [(v : Int)]) s) s).2 ∧ (l.foldl (fun s (v : Nat) => if (v : Int) ∈ o then s else goR E n d (o ++ [(v : Int)]) s) s).2 ≤ s.2) ∧
        ∀ (v : Nat) (t : List Int), v ∈ l → IsOrder n (o ++ (v : Int) :: t) → 0 ≤ (l.foldl (fun s (v : Nat) => if (v : Int) ∈ o then s else goR E n d (o ++ [(v : Int)]) s) s).2 ∧ (l.foldl (fun s (v : Nat) => if (v : Int) ∈ o then s else goR E n d (o ++ [(v : Int)]) s) s).2 ≤ (crossings (o ++ (v : Int) :: t) E : Int) := by
      intro l
      induction l with
      | nil => exact fun s _ hs => ⟨hs, fun h => ⟨h, Int.le_refl _⟩, fun v t hv => by cases hv⟩
      | cons w l ih =>
        intro s hl hs
        rw [List.foldl_cons]
        have hw := hl w (by simp)
        by_cases hv : (w : Int) ∈ o
        · rw [if_pos hv]
          obtain ⟨a, b, c⟩ := ih s (fun v h => hl v (by simp [h])) hs
          refine ⟨a, b, fun v t hm ht => ?_⟩
          rcases List.mem_cons.1 hm with rfl | hm
          · exact absurd rfl ((List.nodup_append.1 ht.2.2).2.2 _ hv _ (by simp))
          · exact c v t hm ht
        · rw [if_neg hv]
          obtain ⟨a1, b1, c1⟩ := goR_best d (o ++ [(w : Int)]) s (by simp; omega) (hp.snoc hw hv) (by simp) (by
            cases o with
            | nil => simp at h0
            | cons x o => simpa using hz) hs
          obtain ⟨a, b, c⟩ := ih _ (fun v h => hl v (by simp [h])) a1
          refine ⟨a, fun h => ?_, fun v t hm ht => ?_⟩
          · have := b1 h; have := b this.1; omega
          · rcases List.mem_cons.1 hm with rfl | hm
            · have e : o ++ (v : Int) :: t = (o ++ [(v : Int)]) ++ t := by simp
              rw [e] at ht ⊢
              have := c1 t ht; have := b this.1; omega
            · exact c v t hm ht
    obtain ⟨a, b, c⟩ := key (List.range n) s (fun v h => List.mem_range.1 h) hs
    refine ⟨a, b, fun t ht => ?_⟩
    cases t with
    | nil => have := ht.1; rw [List.length_append] at this; simp at this; omega
    | cons x t =>
      have hx := ht.2.1 x (by simp)
      obtain ⟨v, rfl⟩ := Int.eq_ofNat_of_zero_le hx.1
      exact c v t (List.mem_range.2 (by omega)) ht
/-- the best ring is a ring with its number, and none has fewer -/
theorem bestR_best {g : List (List Int)} {o : List Int} (h : RingIs g o) : RingIs g (bestR g).1 ∧ (bestR g).2 = (crossings (bestR g).1 (edges g) : Int) ∧ (bestR g).2 ≤ (crossings o (edges g) : Int) := by
  have hg := h.1.1
  have h1 := hg.n1
  obtain ⟨a, b, c⟩ := goR_best (E := edges g) (n := g.length) (g.length - 1) [0] ([], -1) (by simp; omega) (partR_zero h1) (by simp) rfl (.inl rfl)
  have hlen := h.1.2.1
  obtain ⟨t, rfl⟩ : ∃ t, o = [0] ++ t := by
    cases o with
    | nil => simp at hlen; omega
    | cons x t => have := h.2; simp at this; subst this; exact ⟨t, rfl⟩
  have hc := c t h.1.2
  rcases a with a | ⟨a1, a2⟩
  · exfalso; rw [a] at hc; omega
  · exact ⟨⟨⟨hg, a1.1⟩, a1.2⟩, a2, hc.2⟩
theorem crosses_swap {o e f : List Int} : Crosses o e f ↔ Crosses o f e := by
  unfold Crosses CrossP
  exact ⟨fun h => h.symm, fun h => h.symm⟩
theorem chords_swap {g : List (List Int)} {o e f : List Int} : ChordsIs g o e f ↔ ChordsIs g o f e :=
  ⟨fun ⟨a, b, c, d⟩ => ⟨a, c, b, crosses_swap.1 d⟩, fun ⟨a, b, c, d⟩ => ⟨a, c, b, crosses_swap.1 d⟩⟩
theorem edges_okC {g : List (List Int)} (hg : GOk g) {e : List Int} (h : e ∈ edges g) : EdgeOk g e := by
  obtain ⟨u, v, rfl, huv, he⟩ := (mem_edges hg.has e).1 h
  obtain ⟨hu, hv, _, _⟩ := hg.has.rng _ _ he
  refine ⟨rfl, by show (u : Int) < (v : Int); omega, by show (0 : Int) ≤ (u : Int); omega, by show (u : Int) < _; omega, ?_⟩
  show (v : Int) ∈ g.getD ((u : Int)).toNat []
  rw [Int.toNat_natCast, show g.getD u [] = g[u] by simp [hu]]
  exact (hg.has.mem u hu _).2 ⟨v, rfl, he⟩
open Classical in
theorem T_FnCrossings (code : List (BitVec 8)) (hs : Sz.ok code) : F_laws_FnCrossings code = some true := by
  unfold F_laws_FnCrossings
  rw [cal_of (show F_laws_big code = some (decide (4096 < (code.length : Int))) from rfl)]
  by_cases hb : 4096 < code.length
  · rw [if_pos (by simp; omega)]
  rw [if_neg (by simp; omega)]
  obtain ⟨g, o, e, f, e1, hg, ho, he, hf⟩ := drawChords_ex (code := code) (by omega)
  have hgl : g.length ≤ 1048576 := by have := hg.1; omega
  have hgr : ∀ x ∈ g, x.length ≤ 1048576 := fun x hx => by have := hg.2 x hx; omega
  have hbs := resLeastCrossings_small g hgl hgr
  rw [cal_of e1]
  dsimp only
  rw [cal_of (implChordsCross_eq g o e f hgl hgr ho he hf), cal_of (specChordsCross_eq g o e f hgl hgr ho he hf), if_neg (by simp), cal_of (implChordsCross_eq g o f e hgl hgr ho hf he), cal_of (implChordsCross_eq g o e f hgl hgr ho he hf),
    if_neg (by simp [chords_swap (g := g) (o := o) (e := f) (f := e)]), cal_of (implCrossingsOf_eq g o hgl hgr ho), cal_of (implLeastCrossings_eq g hgl hgr), cal_of (specLeastCrossings_eq g hgl hgr), cal_of (specCrossingsOf_eq g o hgl hgr ho),
    if_neg (by simp), if_neg (by simp), cal_of (specRingOk_eq g o hgl hgr ho)]
  by_cases hR : RingIs g o
  case neg =>
    rw [if_pos (by simpa using hR), if_pos (by unfold resCrossingsOf; rw [if_neg hR])]
  rw [if_neg (by simpa using hR)]
  have hok := hR.1.1
  by_cases h8 : 8 < (g.length : Int)
  · rw [if_pos h8, if_neg (by unfold resCrossingsOf; rw [if_pos hR]; omega)]
    have : resLeastCrossings g = ([], -1) := by unfold resLeastCrossings; rw [if_neg (by omega)]
    rw [this]; rfl
  rw [if_neg h8, cal_of (edgesOf_ex hok).1]
  have hel := (edgesOf_ex hok).2
  have hC : resCrossingsOf g o = (crossings o (edges g) : Int) := by unfold resCrossingsOf; rw [if_pos hR]
  have hL : resLeastCrossings g = bestR g := by unfold resLeastCrossings; rw [if_pos ⟨hok, by omega⟩]
  rw [hC, hL]
  rw [hL] at hbs
  have step2 : ∀ (i : Nat) (hi : i < (edges g).length) (j : Nat) (hj : j < (edges g).length), F_impl_ChordsCross g o (edges g)[i] (edges g)[j] = some (decide (Crosses o ((edges g).getD i []) ((edges g).getD j []))) := by
    intro i hi j hj
    have p1 := edges_okC hok (List.getElem_mem hi)
    have p2 := edges_okC hok (List.getElem_mem hj)
    have q1 : (edges g)[i].length ≤ 1048576 := by obtain ⟨x, y, e, _⟩ := edges_pair hok (List.getElem_mem hi); rw [e]; simp
    have q2 : (edges g)[j].length ≤ 1048576 := by obtain ⟨x, y, e, _⟩ := edges_pair hok (List.getElem_mem hj); rw [e]; simp
    rw [implChordsCross_eq g o _ _ hgl hgr ho q1 q2, show (edges g).getD i [] = (edges g)[i] by simp [hi], show (edges g).getD j [] = (edges g)[j] by simp [hj]]
    congr 1
    rw [decide_eq_decide]
    exact ⟨fun k => k.2.2.2, fun k => ⟨hR, p1, p2, k⟩⟩
  have hcl : ∀ i j, i ≤ 256 → j ≤ i → crossN o (edges g) i + cross1 o (edges g) i j ≤ 100000 := fun i j hi hj => by
    have h1 := crossN_le o (edges g) i
    have h2 := cross1_le o (edges g) i j
    have h3 : i * i ≤ 256 * 256 := Nat.mul_le_mul hi hi
    omega
  have key : lp (fun s => F_laws_FnCrossings_l1 (g, o, e, f) s.1 s.2.1 s.2.2) (edges g, 0, 0) = some (.inl (crossings o (edges g) : Int)) := by
    refine lp_upto (fun i => (edges g, (crossN o (edges g) i : Int), (i : Int))) (edges g).length rfl (fun i hi => ?_) ?_
    · simp only [F_laws_FnCrossings_l1]
      rw [if_pos (by omega)]
      have inner : lp (fun s => F_laws_FnCrossings_l2 (g, o, e, f) (i : Int) s.1 s.2.1 s.2.2) (edges g, (crossN o (edges g) i : Int), 0) = some (.inl (edges g, ((crossN o (edges g) (i + 1) : Nat) : Int))) := by
        refine lp_upto (fun j => (edges g, ((crossN o (edges g) i + cross1 o (edges g) i j : Nat) : Int), (j : Int))) i (by rw [crossN_zero]; rfl) (fun j hj => ?_) ?_
        · have := hcl i (j + 1) (by omega) (by omega)
          have hc := cross1_succ o (edges g) i j
          simp only [F_laws_FnCrossings_l2]
          rw [if_pos (by omega), idx_nat hi, idx_nat (show j < (edges g).length by omega), cal_of (step2 i hi j (by omega))]
          by_cases hx : Crosses o ((edges g).getD i []) ((edges g).getD j [])
          · rw [if_pos hx] at hc
            rw [if_pos (by simpa using hx), ck_of (inI (by omega) (by omega)), ck_of (inI (by omega) (by omega))]
            exact inl_eq (pair_eq rfl (pair_eq (by omega) rfl))
          · rw [if_neg hx] at hc
            rw [if_neg (by simpa using hx), ck_of (inI (by omega) (by omega))]
            exact inl_eq (pair_eq rfl (pair_eq (by omega) rfl))
        · simp only [F_laws_FnCrossings_l2]
          rw [if_neg (by omega)]
          rfl
      rw [bnd_l inner]
      unfold F_laws_FnCrossings_k3
      rw [ck_of (inI (by omega) (by omega))]; rfl
    · simp only [F_laws_FnCrossings_l1]
      rw [if_neg (by omega)]; rfl
  rw [bnd_l key]
  unfold F_laws_FnCrossings_k4
  dsimp only
  obtain ⟨b1, b2, b3⟩ := bestR_best hR
  rw [if_pos rfl, if_pos b3, cal_of (implCrossingsOf_eq g _ hgl hgr hbs)]
  unfold resCrossingsOf
  rw [if_pos b1, b2]
  simp
end Go.Proofs.YtbefgidkaepmmaaGreatDoor

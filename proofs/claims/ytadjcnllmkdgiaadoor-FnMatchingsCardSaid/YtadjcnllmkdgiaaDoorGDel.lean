/- Graphs with an edge or a vertex less. -/
import Derived.Test.YtadjcnllmkdgiaaDoorDiceF
import Derived.Test.YtadjcnllmkdgiaaDoorEdges
import Derived.Test.YtadjcnllmkdgiaaDoorCritical
namespace Go.Proofs.YtadjcnllmkdgiaaDoor
theorem Has.bit {g : List (List Int)} {n : Nat} {E : Nat → Nat → Prop} (h : Has g n E) {u v : Nat} (hu : u < n) : ((nb g).getD u 0).testBit v = true ↔ E u v := by
  have hl := h.len
  rw [nb_getD (show u < g.length by omega), mk_bit, decide_eq_true_iff]
  constructor
  · rintro ⟨y, hy, rfl⟩
    obtain ⟨w, rfl, hw⟩ := (h.mem u (by omega) y).1 hy
    simpa using hw
  · exact fun he => ⟨v, (h.mem u (by omega) _).2 ⟨v, rfl, he⟩, by simp⟩
/-- the edges of a graph -/
def Ed (g : List (List Int)) (u v : Nat) : Prop := u < g.length ∧ ((nb g).getD u 0).testBit v = true
theorem GOk.has {g : List (List Int)} (hg : GOk g) : Has g g.length (Ed g) := by
  have mem : ∀ v (h : v < g.length) (y : Int), y ∈ g[v] ↔ ∃ u : Nat, y = u ∧ Ed g v u := fun v hv y => by
    unfold Ed
    rw [nb_getD hv]
    constructor
    · intro hy
      have hr := hg.row_mem hv hy
      exact ⟨y.toNat, by omega, hv, by rw [mk_bit, decide_eq_true_iff]; exact ⟨y, hy, rfl⟩⟩
    · rintro ⟨u, rfl, _, hu⟩
      rw [mk_bit, decide_eq_true_iff] at hu
      obtain ⟨w, hw, e⟩ := hu
      have := hg.row_mem hv hw
      rwa [show (u : Int) = w by omega]
  refine ⟨rfl, fun v hv => ?_, mem, fun u v huv => ?_⟩
  · rw [row_els hg hv, ints]
    exact List.Pairwise.map _ (fun a b h => by omega) (els_sorted _)
  · have hm := (mem u huv.1 v).2 ⟨v, rfl, huv⟩
    have hr := hg.row_mem huv.1 hm
    have hv : v < g.length := by omega
    refine ⟨huv.1, hv, fun e => ?_, ?_⟩
    · subst e; exact (hg.rows u huv.1).2 hm
    · have := hg.sym u huv.1 v hm (by omega)
      simp only [Int.toNat_natCast] at this
      obtain ⟨w, e, hw⟩ := (mem v hv u).1 this
      rwa [show u = w by omega]
theorem l1CopyGraph_eqG {g : List (List Int)} (hl : g.length ≤ 1048576) (hr : ∀ x ∈ g, x.length ≤ 1048576) : F_spec_l1CopyGraph g = some g := by
  unfold F_spec_l1CopyGraph
  have : lp (fun s => F_spec_l1CopyGraph_l1 g s.1 s.2) (([] : List (List Int)), 0) = some (.inl g) := by
    refine lp_map g (fun x => x) (fun k hk l hkl => ?_) ?_
    · simp only [F_spec_l1CopyGraph_l1]
      rw [if_pos (by omega), idx_nat hk, cal_of (l1Copy_eqD (hr _ (List.getElem_mem hk))), app1_s (by omega), ck_of (inI (by omega) (by omega))]; rfl
    · simp only [F_spec_l1CopyGraph_l1]
      rw [if_neg (by omega), List.map_id']
  rw [bnd_l this]; rfl
theorem l2Without_eq {l : List Int} (x : Int) (hl : l.length ≤ 1048576) : F_spec_l2Without l x = some (l.filter fun y => decide (y ≠ x)) := by
  unfold F_spec_l2Without
  have : lp (fun s => F_spec_l2Without_l1 l x s.1 s.2) (([] : List Int), 0) = some (.inl (l.filter fun y => decide (y ≠ x))) := by
    refine lp_upto (fun k => ((l.take k).filter fun y => decide (y ≠ x), (k : Int))) l.length (by simp) (fun k hk => ?_) ?_
    · simp only [F_spec_l2Without_l1]
      have h1 : ((l.take k).filter fun y => decide (y ≠ x)).length ≤ k := Nat.le_trans (List.length_filter_le ..) (by rw [List.length_take]; omega)
      rw [if_pos (by omega), idx_nat hk, filter_take_snoc hk]
      by_cases h : l[k] ≠ x
      · rw [if_pos h, idx_nat hk, app1_s (by omega), ck_of (inI (by omega) (by omega)), if_pos (by simpa using h)]; rfl
      · rw [if_neg h, ck_of (inI (by omega) (by omega)), if_neg (by simpa using h), List.append_nil]; rfl
    · simp only [F_spec_l2Without_l1]
      rw [if_neg (by omega), List.take_length]
  rw [bnd_l this]; rfl
theorem Has.small {g : List (List Int)} {n : Nat} {E : Nat → Nat → Prop} (h : Has g n E) (h16 : n ≤ 16) : g.length ≤ 1048576 ∧ ∀ x ∈ g, x.length ≤ 16 := by
  have hl := h.len
  refine ⟨by omega, fun x hx => ?_⟩
  obtain ⟨v, hv, rfl⟩ := List.getElem_of_mem hx
  have := (h.row hv).len (by omega); omega
theorem l1There_ex {g : List (List Int)} {u : Nat} (hl : g.length ≤ 16) (hu : u < g.length) : F_spec_l1There g (u : Int) = some true := by
  unfold F_spec_l1There F_spec_l1Size
  rw [cal_some_eq, ck_of (inI (by omega) (by omega)), l1In_eq, cal_some_eq]
  exact congrArg some (decide_eq_true (show (0 : Int) ≤ u ∧ (u : Int) ≤ (g.length : Int) - 1 by omega))
open Classical in
theorem l1Edge_ex {g : List (List Int)} {n : Nat} {E : Nat → Nat → Prop} (h : Has g n E) (h16 : n ≤ 16) {u v : Nat} (hu : u < n) : F_spec_l1Edge g (u : Int) (v : Int) = some (decide (E u v)) := by
  have hl := h.len
  have hs := (h.small h16).2 _ (List.getElem_mem (show u < g.length by omega))
  unfold F_spec_l1Edge
  rw [idx_nat (by omega), l1Has_eq _ _ (by omega), cal_some_eq]
  refine congrArg some (decide_eq_decide.2 ?_)
  rw [h.mem u (by omega)]
  exact ⟨fun ⟨w, e, hw⟩ => by rwa [show v = w by omega], fun he => ⟨v, rfl, he⟩⟩
theorem cut_ex {g : List (List Int)} {n : Nat} {E : Nat → Nat → Prop} (h : Has g n E) (h16 : n ≤ 16) {u v : Nat} (he : E u v) :
    ∃ g', F_spec_CutEdge g (u : Int) (v : Int) = some (g', true) ∧ Has g' n (fun a b => E a b ∧ ¬ (a = u ∧ b = v) ∧ ¬ (a = v ∧ b = u)) := by
  obtain ⟨hu, hv, huv, he2⟩ := h.rng _ _ he
  have hl := h.len
  obtain ⟨hs1, hs2⟩ := h.small h16
  have hg := h.gok (by omega) h16
  have hru := hs2 _ (List.getElem_mem (show u < g.length by omega))
  have hrv := hs2 _ (List.getElem_mem (show v < g.length by omega))
  have hv1 : (g.set u (g[u].filter fun y => decide (y ≠ (v : Int))))[v]'(by simp; omega) = g[v] := by rw [List.getElem_set_ne (by omega)]
  refine ⟨(g.set u (g[u].filter fun y => decide (y ≠ (v : Int)))).set v (g[v].filter fun y => decide (y ≠ (u : Int))), ?_, by simp [hl], fun w hw => ?_, fun w hw y => ?_, fun a b hab => ?_⟩
  · unfold F_spec_CutEdge F_spec_l2Pair
    rw [specGraphOk_eq g fun x hx => by have := hs2 x hx; omega, cal_some_eq, if_pos (by simp [hg]), cal_of (l1There_ex (by omega) (by omega)), if_pos rfl, cal_of (l1There_ex (by omega) (by omega)), if_pos rfl, cal_some_eq, if_neg (by simp; omega), cal_of (l1Edge_ex h h16 hu), if_neg (by simp [he]), cal_of (l1CopyGraph_eqG hs1 fun x hx => by have := hs2 x hx; omega), idx_nat (by omega), cal_of (l2Without_eq _ (by omega)), idx_nat (by omega), Int.toNat_natCast, idx_nat (by simp; omega), hv1, cal_of (l2Without_eq _ (by omega)), idx_nat (by simp; omega), Int.toNat_natCast]
  · simp only [List.length_set] at hw
    rw [List.getElem_set]
    split
    · exact (h.srt v (by omega)).filter _
    · rw [List.getElem_set]
      split
      · exact (h.srt u (by omega)).filter _
      · exact h.srt w hw
  · simp only [List.length_set] at hw
    rw [List.getElem_set]
    split
    · rename_i e
      subst e
      rw [List.mem_filter, h.mem v hw, decide_eq_true_iff]
      constructor
      · rintro ⟨⟨x, rfl, hx⟩, e⟩
        exact ⟨x, rfl, hx, by omega, by omega⟩
      · rintro ⟨x, rfl, hx, h1, h2⟩
        exact ⟨⟨x, rfl, hx⟩, by omega⟩
    · rename_i e1
      rw [List.getElem_set]
      split
      · rename_i e
        subst e
        rw [List.mem_filter, h.mem u hw, decide_eq_true_iff]
        constructor
        · rintro ⟨⟨x, rfl, hx⟩, e⟩
          exact ⟨x, rfl, hx, by omega, by omega⟩
        · rintro ⟨x, rfl, hx, h1, h2⟩
          exact ⟨⟨x, rfl, hx⟩, by omega⟩
      · rename_i e2
        rw [h.mem w hw]
        exact ⟨fun ⟨x, e, hx⟩ => ⟨x, e, hx, by omega, by omega⟩, fun ⟨x, e, hx, _⟩ => ⟨x, e, hx⟩⟩
  · obtain ⟨h1, h2, h3⟩ := hab
    have := h.rng _ _ h1
    exact ⟨this.1, this.2.1, this.2.2.1, this.2.2.2, by omega, by omega⟩
open Classical in
theorem of_ex {g : List (List Int)} {n : Nat} {E : Nat → Nat → Prop} (h : Has g n E) (h16 : n ≤ 16) {L : List Nat} (hL : ∀ x ∈ L, x < n) (hl16 : L.length ≤ 16) :
    ∃ g', F_spec_l2Of g (ints L) = some g' ∧ Has g' L.length (fun i j => i < L.length ∧ j < L.length ∧ E (L.getD i 0) (L.getD j 0)) := by
  have hl := h.len
  have hLn : ∀ i, i < L.length → L.getD i 0 < n := fun i hi => by rw [show L.getD i 0 = L[i] by simp [hi]]; exact hL _ (List.getElem_mem hi)
  have hin : ∀ {β : Type} (i : Nat) (hi : i < L.length) (q : Int → Option β), idx (ints L) (i : Int) q = q (L.getD i 0 : Nat) := fun i hi q => by
    rw [idx_nat (by rw [ints_len]; exact hi), ints_get, show L.getD i 0 = L[i] by simp [hi]]
  have main := lp_ex (step := fun s => F_spec_l2Of_l1 g (ints L) s.1 s.2) (fun (k : Nat) (g' : List (List Int)) => (g', (k : Int))) L.length
    (fun k g' => Has g' L.length (fun i j => i < k ∧ j < k ∧ E (L.getD i 0) (L.getD j 0))) (fun o => ∃ g', o = .inl g' ∧ Has g' L.length (fun i j => i < L.length ∧ j < L.length ∧ E (L.getD i 0) (L.getD j 0))) ?_ ?_ L.length 0 (List.replicate L.length []) (by omega)
    ((has_empty L.length).congr fun a b => by constructor; exact fun h => h.elim; exact fun h => by omega)
  · obtain ⟨o, e, g', rfl, hg'⟩ := main
    refine ⟨g', ?_, hg'⟩
    unfold F_spec_l2Of
    rw [ints_len, cal_of (l1Empty_eqD (by omega))]
    rw [show ((0 : Nat) : Int) = 0 from rfl] at e
    rw [bnd_l e]; rfl
  · intro k g' hk hg'
    have inner := lp_ex (step := fun s => F_spec_l2Of_l2 g (ints L) (k : Int) s.1 s.2) (fun (j : Nat) (g' : List (List Int)) => (g', (j : Int))) k
      (fun j g' => Has g' L.length (fun a b => (a < k ∧ b < k ∧ E (L.getD a 0) (L.getD b 0)) ∨ (a = k ∧ b < j ∧ E (L.getD a 0) (L.getD b 0)) ∨ (b = k ∧ a < j ∧ E (L.getD a 0) (L.getD b 0)))) (fun o => ∃ g', o = .inl g' ∧ Has g' L.length (fun i j => i < k + 1 ∧ j < k + 1 ∧ E (L.getD i 0) (L.getD j 0))) ?_ ?_ k 0 g' (by omega)
      (hg'.congr fun a b => by constructor; exact fun h => .inl h; rintro (h | h | h) <;> first | exact h | omega)
    · obtain ⟨o, e, g2, rfl, hg2⟩ := inner
      refine ⟨g2, ?_, hg2⟩
      simp only [F_spec_l2Of_l1]
      rw [if_pos (by rw [ints_len]; omega)]
      rw [show ((0 : Nat) : Int) = 0 from rfl] at e
      rw [bnd_l e]
      unfold F_spec_l2Of_k3
      rw [ck_of (inI (by omega) (by omega))]; rfl
    · intro j g2 hj hg2
      simp only [F_spec_l2Of_l2]
      rw [if_pos (by omega), hin k hk, hin j (by omega), cal_of (l1Edge_ex h h16 (hLn k hk))]
      by_cases he : E (L.getD k 0) (L.getD j 0)
      · obtain ⟨g3, e3, hg3⟩ := link_ex hg2 hl16 (u := j) (v := k) (by omega) hk (by omega)
        refine ⟨g3, ?_, hg3.congr fun a b => ?_⟩
        · rw [if_pos (decide_eq_true he), cal_of e3, ck_of (inI (by omega) (by omega))]; rfl
        · have he2 := (h.rng _ _ he).2.2.2
          constructor
          · rintro ((h | h | h) | ⟨rfl, rfl⟩ | ⟨rfl, rfl⟩)
            · exact .inl h
            · exact .inr (.inl ⟨h.1, by omega, h.2.2⟩)
            · exact .inr (.inr ⟨h.1, by omega, h.2.2⟩)
            · exact .inr (.inr ⟨rfl, by omega, he2⟩)
            · exact .inr (.inl ⟨rfl, by omega, he⟩)
          · rintro (h | ⟨rfl, h2, h3⟩ | ⟨rfl, h2, h3⟩)
            · exact .inl (.inl h)
            · by_cases e : b = j
              · exact .inr (.inr ⟨rfl, e⟩)
              · exact .inl (.inr (.inl ⟨rfl, by omega, h3⟩))
            · by_cases e : a = j
              · exact .inr (.inl ⟨e, rfl⟩)
              · exact .inl (.inr (.inr ⟨rfl, by omega, h3⟩))
      · refine ⟨g2, ?_, hg2.congr fun a b => ?_⟩
        · rw [if_neg (by rw [decide_eq_true_iff]; exact he), ck_of (inI (by omega) (by omega))]; rfl
        · constructor
          · rintro (h | h | h)
            · exact .inl h
            · exact .inr (.inl ⟨h.1, by omega, h.2.2⟩)
            · exact .inr (.inr ⟨h.1, by omega, h.2.2⟩)
          · rintro (h1 | ⟨rfl, h2, h3⟩ | ⟨rfl, h2, h3⟩)
            · exact .inl h1
            · by_cases e : b = j
              · subst e; exact absurd h3 he
              · exact .inr (.inl ⟨rfl, by omega, h3⟩)
            · by_cases e : a = j
              · subst e; exact absurd (h.rng _ _ h3).2.2.2 he
              · exact .inr (.inr ⟨rfl, by omega, h3⟩)
    · intro g2 hg2
      simp only [F_spec_l2Of_l2]
      rw [if_neg (by omega)]
      refine ⟨_, rfl, g2, rfl, hg2.congr fun a b => ?_⟩
      constructor
      · rintro (h1 | h1 | h1)
        · exact ⟨by omega, by omega, h1.2.2⟩
        · exact ⟨by omega, by omega, h1.2.2⟩
        · exact ⟨by omega, by omega, h1.2.2⟩
      · rintro ⟨h1, h2, h3⟩
        by_cases ea : a = k
        · by_cases eb : b = k
          · subst ea; subst eb; exact absurd rfl (h.rng _ _ h3).2.2.1
          · exact .inr (.inl ⟨ea, by omega, h3⟩)
        · by_cases eb : b = k
          · exact .inr (.inr ⟨eb, by omega, h3⟩)
          · exact .inl ⟨by omega, by omega, h3⟩
  · intro g' hg'
    simp only [F_spec_l2Of_l1]
    rw [if_neg (by rw [ints_len]; omega)]
    exact ⟨_, rfl, g', rfl, hg'⟩
theorem others_filter {n v : Nat} (hv : v < n) : (List.range n).filter (fun w => decide (w ≠ v)) = others n v := by
  refine List.Perm.eq_of_pairwise (le := (· < ·)) (fun a b _ _ _ _ => by omega) (List.pairwise_lt_range.filter _) ?_ ?_
  · unfold others
    refine List.Pairwise.map _ (fun a b h => ?_) List.pairwise_lt_range
    unfold past; split <;> split <;> omega
  · refine (List.perm_ext_iff_of_nodup (List.nodup_range.filter _) ?_).2 fun w => ?_
    · unfold others
      rw [List.nodup_iff_pairwise_ne, List.pairwise_map]
      exact List.pairwise_lt_range.imp fun {a b} h => by unfold past; split <;> split <;> omega
    · unfold others
      rw [List.mem_filter, List.mem_range, decide_eq_true_iff, List.mem_map]
      constructor
      · rintro ⟨h1, h2⟩
        exact ⟨if w < v then w else w - 1, List.mem_range.2 (by split <;> omega), past_back h1 h2⟩
      · rintro ⟨i, hi, rfl⟩
        have := List.mem_range.1 hi
        unfold past; split <;> omega
theorem ints_filter (L : List Nat) (v : Nat) : (ints L).filter (fun y => decide (y ≠ (v : Int))) = ints (L.filter fun w => decide (w ≠ v)) := by
  unfold ints
  rw [List.filter_map]
  congr 1
  refine List.filter_congr fun w _ => ?_
  simp only [Function.comp_apply]
  exact decide_eq_decide.2 (by omega)
theorem mem_edges {g : List (List Int)} {n : Nat} {E : Nat → Nat → Prop} (h : Has g n E) (e : List Int) : e ∈ edges g ↔ ∃ u v : Nat, e = [(u : Int), (v : Int)] ∧ u < v ∧ E u v := by
  have hl := h.len
  unfold edges
  rw [List.mem_flatMap]
  constructor
  · rintro ⟨u, hu, he⟩
    have hul := List.mem_range.1 hu
    obtain ⟨w, hw, rfl⟩ := List.mem_map.1 he
    obtain ⟨h1, h2⟩ := List.mem_filter.1 hw
    rw [show g.getD u [] = g[u] by simp [hul], h.mem u hul] at h1
    obtain ⟨v, rfl, hv⟩ := h1
    exact ⟨u, v, rfl, by have := of_decide_eq_true h2; omega, hv⟩
  · rintro ⟨u, v, rfl, huv, he⟩
    have hu := (h.rng _ _ he).1
    refine ⟨u, List.mem_range.2 (by omega), List.mem_map.2 ⟨v, List.mem_filter.2 ⟨?_, decide_eq_true (by omega)⟩, rfl⟩⟩
    rw [show g.getD u [] = g[u]'(by omega) by simp [show u < g.length by omega], h.mem u (by omega)]
    exact ⟨v, rfl, he⟩
theorem gok_smallG {g : List (List Int)} (hg : GOk g) : g.length ≤ 1048576 ∧ ∀ x ∈ g, x.length ≤ 1048576 := by
  have h16 := hg.n16
  refine ⟨by omega, fun x hx => ?_⟩
  obtain ⟨v, hv, rfl⟩ := List.getElem_of_mem hx
  have := hg.row_len hv; omega
theorem edgesOf_ex {g : List (List Int)} (hg : GOk g) : F_spec_EdgesOf g = some (edges g) ∧ (edges g).length ≤ 256 := by
  refine ⟨?_, ?_⟩
  · unfold F_spec_EdgesOf
    rw [specGraphOk_eq g fun x hx => by obtain ⟨v, hv, rfl⟩ := List.getElem_of_mem hx; have := hg.row_len hv; omega, cal_some_eq, if_neg (by simp [hg]), cal_of (l1Edges_eq hg)]
  · have := edges_part hg g.length (Nat.le_refl _)
    have := hg.n16
    unfold edges; omega
end Go.Proofs.YtadjcnllmkdgiaaDoor

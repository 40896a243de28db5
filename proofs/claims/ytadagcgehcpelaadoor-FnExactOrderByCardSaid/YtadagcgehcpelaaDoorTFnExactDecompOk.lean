/- FnExactDecompOk: the plain law. -/
import Derived.Test.YtadagcgehcpelaaDoorDecomp
import Derived.Test.YtadagcgehcpelaaDoorCover
import Derived.Test.YtadagcgehcpelaaDoorLawGraph
namespace Go.Proofs.YtadagcgehcpelaaDoor
/-- some bag has both -/
def Together (bags : List (List Int)) (u w : Nat) : Prop := ∃ b ∈ bags, (u : Int) ∈ b ∧ (w : Int) ∈ b
/-- the bags that have a vertex: some, and linked -/
def Whole (bags links : List (List Int)) (v : Nat) : Prop := wset bags v bags.length ≠ 0 ∧ reach (lnets bags.length links) (wset bags v bags.length) (low (wset bags v bags.length)) = wset bags v bags.length
def IsTree (bags links : List (List Int)) : Prop := reach (lnets bags.length links) (2 ^ bags.length - 1) (low (2 ^ bags.length - 1)) = 2 ^ bags.length - 1
structure DecOk (g bags links : List (List Int)) : Prop where
  graph : GOk g
  n1 : 1 ≤ bags.length
  n16 : bags.length ≤ 16
  many : links.length + 1 = bags.length
  lk : LinksOk links bags.length
  tree : IsTree bags links
  rows : ∀ b ∈ bags, Rises b g.length
  edges : ∀ u, u < g.length → ∀ w, ((nb g).getD u 0).testBit w = true → Together bags u w
  whole : ∀ v, v < g.length → Whole bags links v
theorem filter_len_iff {l : List Int} {p : Int → Bool} : (l.filter p).length = l.length ↔ ∀ x ∈ l, p x = true := by
  rw [List.length_filter_eq_length_iff]
theorem l8Meet_eq {a b : List Int} (ha : a.length ≤ 1048576) (hb : b.length ≤ 1048576) : F_spec_l8Meet a b = some (a.filter fun x => decide (x ∈ b)) := by
  unfold F_spec_l8Meet
  have key : lp (fun s => F_spec_l8Meet_l1 a b s.1 s.2) (([] : List Int), 0) = some (.inl (a.filter fun x => decide (x ∈ b))) := by
    refine lp_upto (fun k => ((a.take k).filter fun x => decide (x ∈ b), (k : Int))) a.length rfl (fun k hk => ?_) ?_
    · simp only [F_spec_l8Meet_l1]
      have hf : ((a.take k).filter fun x => decide (x ∈ b)).length ≤ k := Nat.le_trans (List.length_filter_le ..) (by rw [List.length_take]; omega)
      rw [if_pos (by omega), idx_nat hk, cal_of (l1Has_eq _ _ (by omega)), filter_take_snoc hk]
      by_cases h : a[k] ∈ b
      · rw [if_pos (by simpa using h), if_pos (by simpa using h), idx_nat hk, app1_s (by omega), ck_of (inI (by omega) (by omega))]; rfl
      · rw [if_neg (by simpa using h), if_neg (by simpa using h), ck_of (inI (by omega) (by omega)), List.append_nil]; rfl
    · simp only [F_spec_l8Meet_l1]
      rw [if_neg (by omega), List.take_length]
  rw [bnd_l key]; rfl
open Classical in
theorem l9In_eq {bags links : List (List Int)} (hb : bags.length ≤ 1048576) (hr : ∀ x ∈ bags, x.length ≤ 1048576) {u w : Nat} : F_spec_l9In bags links [(u : Int), (w : Int)] = some (decide (Together bags u w)) := by
  unfold F_spec_l9In
  have hpart : ∀ b ∈ bags, F_spec_l9Part [(u : Int), (w : Int)] b = some (decide ((u : Int) ∈ b ∧ (w : Int) ∈ b)) := by
    intro b hbm
    unfold F_spec_l9Part
    rw [cal_of (l8Meet_eq (by simp) (hr b hbm))]
    refine congrArg some ?_
    rw [Bool.eq_iff_iff, decide_eq_true_iff, decide_eq_true_iff, Int.ofNat_inj, filter_len_iff]
    simp
  have key := lp_allC (step := fun s => F_spec_l9In_l1 bags [(u : Int), (w : Int)] s) (fun k => (k : Int)) bags.length (fun k => ∀ h : k < bags.length, ¬ ((u : Int) ∈ bags[k] ∧ (w : Int) ∈ bags[k])) (¬ Together bags u w) (oT := .inl ()) (oF := .inr true) ?_ ?_ ?_ ?_
  · rw [show (0 : Int) = ((0 : Nat) : Int) from rfl, key, bnd_if]
    unfold F_spec_l9In_k2
    by_cases h : Together bags u w
    · rw [if_neg (by simpa using h), decide_eq_true h]
    · rw [if_pos h, decide_eq_false h]
  · constructor
    · exact fun h k _ hk hh => h ⟨_, List.getElem_mem hk, hh⟩
    · rintro h ⟨b, hbm, hh⟩
      obtain ⟨k, hk, rfl⟩ := List.getElem_of_mem hbm
      exact h k hk hk hh
  · intro k hk _ hp
    simp only [F_spec_l9In_l1]
    rw [if_pos (by omega), idx_nat hk, cal_of (hpart _ (List.getElem_mem hk)), if_neg (by simpa using hp hk), ck_of (inI (by omega) (by omega))]; rfl
  · intro k hk _ hp
    simp only [F_spec_l9In_l1]
    have : (u : Int) ∈ bags[k] ∧ (w : Int) ∈ bags[k] := Classical.byContradiction fun h => hp fun _ => h
    rw [if_pos (by omega), idx_nat hk, cal_of (hpart _ (List.getElem_mem hk)), if_pos (by simpa using this)]
  · intro _
    simp only [F_spec_l9In_l1]
    rw [if_neg (by omega)]
theorem all_els {n : Nat} (hn : n ≤ 16) : els (2 ^ n - 1) = List.range n := by
  have h0 := Nat.two_pow_pos n
  rw [els_range hn (by omega)]
  refine List.filter_eq_self.2 fun v hv => ?_
  rw [Nat.testBit_two_pow_sub_one]; simpa using List.mem_range.1 hv
theorem l1All_eq {n : Nat} (hn : n ≤ 16) : F_spec_l1All (n : Int) = some (ints (els (2 ^ n - 1))) := by
  unfold F_spec_l1All
  rw [all_els hn]
  have key : lp (fun s => F_spec_l1All_l1 (n : Int) s.1 s.2) (([] : List Int), 0) = some (.inl (ints (List.range n))) := by
    refine lp_nums n (fun k => ints (List.range k)) (fun k hk => ?_) ?_
    · simp only [F_spec_l1All_l1]
      rw [if_pos (by omega), app1_s (by rw [ints_len, List.length_range]; omega), ck_of (inI (by omega) (by omega)), ints_snoc, List.range_succ]; rfl
    · simp only [F_spec_l1All_l1]
      rw [if_neg (by omega)]
  rw [bnd_l key]; rfl
open Classical in
theorem l9Form_eq {bags links : List (List Int)} (hb : bags.length ≤ 1048576) (hll : links.length ≤ 1048576) (hr : ∀ x ∈ links, x.length ≤ 1048576) : F_spec_l9Form bags links = some (decide ((1 ≤ bags.length ∧ bags.length ≤ 16) ∧ links.length ≤ 16 ∧ LinksOk links bags.length)) := by
  unfold F_spec_l9Form
  rw [l1In_eq, cal_some_eq]
  by_cases h1 : 1 ≤ bags.length ∧ bags.length ≤ 16
  case neg => rw [if_pos (by simp; omega)]; exact congrArg some (decide_eq_false (fun h => h1 h.1)).symm
  rw [if_neg (by simp; omega)]
  by_cases h2 : links.length ≤ 16
  case neg => rw [if_pos (by omega)]; exact congrArg some (decide_eq_false (fun h => h2 h.2.1)).symm
  rw [if_neg (by omega)]
  have key := lp_allC (step := fun s => F_spec_l9Form_l1 bags links s) (fun k => (k : Int)) links.length (fun k => ∀ h : k < links.length, links[k].length = 2 ∧ Rises links[k] bags.length) (LinksOk links bags.length) (oT := .inl ()) (oF := .inr false) ?_ ?_ ?_ ?_
  · rw [show (0 : Int) = ((0 : Nat) : Int) from rfl, key, bnd_if]
    unfold F_spec_l9Form_k2
    by_cases h : LinksOk links bags.length
    · rw [if_pos h]; exact congrArg some (decide_eq_true ⟨h1, h2, h⟩).symm
    · rw [if_neg h]; exact congrArg some (decide_eq_false (fun h' => h h'.2.2)).symm
  · constructor
    · exact fun h k _ hk => h _ (List.getElem_mem hk)
    · intro h l hl
      obtain ⟨k, hk, rfl⟩ := List.getElem_of_mem hl
      exact h k hk hk
  · intro k hk _ hp
    obtain ⟨p1, p2⟩ := hp hk
    simp only [F_spec_l9Form_l1]
    rw [if_pos (by omega), idx_nat hk, if_neg (by omega), idx_nat hk, cal_of (l1Set_eq _ _ (by omega) (by omega) (by omega)), if_neg (by simpa using p2), ck_of (inI (by omega) (by omega))]; rfl
  · intro k hk _ hp
    simp only [F_spec_l9Form_l1]
    rw [if_pos (by omega), idx_nat hk]
    by_cases p1 : links[k].length = 2
    · have p2 : ¬ Rises links[k] bags.length := fun h => hp fun _ => ⟨p1, h⟩
      rw [if_neg (by omega), idx_nat hk, cal_of (l1Set_eq _ _ (by omega) (by omega) (by omega)), if_pos (by simpa using p2)]
    · rw [if_pos (by omega)]
  · intro _
    simp only [F_spec_l9Form_l1]
    rw [if_neg (by omega)]
open Classical in
theorem l9Tree_eq {bags links : List (List Int)} (hb : bags.length ≤ 1048576) (hll : links.length ≤ 1048576) (hr : ∀ x ∈ links, x.length ≤ 1048576) : F_spec_l9Tree bags links = some (decide ((1 ≤ bags.length ∧ bags.length ≤ 16) ∧ LinksOk links bags.length ∧ links.length + 1 = bags.length ∧ IsTree bags links)) := by
  unfold F_spec_l9Tree
  rw [cal_of (l9Form_eq hb hll hr)]
  by_cases h1 : (1 ≤ bags.length ∧ bags.length ≤ 16) ∧ links.length ≤ 16 ∧ LinksOk links bags.length
  case neg => rw [if_neg (by simpa using h1)]; exact congrArg some (decide_eq_false (fun h => h1 ⟨h.1, by have := h.1; have := h.2.2.1; omega, h.2.1⟩)).symm
  rw [if_pos (by simpa using h1), ck_of (inI (by omega) (by omega))]
  by_cases h2 : links.length + 1 = bags.length
  case neg => rw [if_neg (by omega)]; exact congrArg some (decide_eq_false (fun h => h2 h.2.2.1)).symm
  have hp := pow16 h1.1.2
  have h0 : 2 ^ 1 ≤ 2 ^ bags.length := Nat.pow_le_pow_right (by decide) h1.1.1
  have hs : 2 ^ bags.length - 1 < 2 ^ bags.length := by omega
  rw [if_pos (by omega), cal_of (l1All_eq h1.1.2), cal_of (l9Reached_eq h1.1.2 h1.2.1 h1.2.2 hs (by omega))]
  refine congrArg some ?_
  rw [Bool.eq_iff_iff, decide_eq_true_iff, decide_eq_true_iff]
  have hc : card (2 ^ bags.length - 1) = bags.length := by unfold card; rw [all_els h1.1.2, List.length_range]
  have hci := card_eq_iff (s := reach (lnets bags.length links) (2 ^ bags.length - 1) (low (2 ^ bags.length - 1))) (t := 2 ^ bags.length - 1) (by omega) (reach_in (by omega) (low_bit (by omega)))
  rw [hc] at hci
  constructor
  · intro h; exact ⟨h1.1, h1.2.2, h2, hci.1 (by omega)⟩
  · intro h; have := hci.2 h.2.2.2; omega
/-- the edges, each told once, or at both its ends -/
theorem edges_all {g bags : List (List Int)} (hg : GOk g) : (∀ k (h : k < (edges g).length), ∃ u w : Nat, (edges g)[k] = [(u : Int), (w : Int)] ∧ Together bags u w) ↔ ∀ u, u < g.length → ∀ w, ((nb g).getD u 0).testBit w = true → Together bags u w := by
  have hsym : ∀ u w, Together bags u w → Together bags w u := fun u w ⟨b, hb, h1, h2⟩ => ⟨b, hb, h2, h1⟩
  have hA := nbs_sym hg
  have hnl := nb_len g
  have hbit : ∀ u (hu : u < g.length) (w : Nat), ((nb g).getD u 0).testBit w = true ↔ (w : Int) ∈ g[u] := fun u hu w => by
    rw [nb_getD hu, mk_mem (fun v hv => (hg.row_mem hu hv).1), decide_eq_true_iff]
  constructor
  · intro h u hu w hw
    have hwg := (hbit u hu w).1 hw
    have hwn : w < g.length := by have := hg.row_mem hu hwg; omega
    have key : ∀ u w : Nat, (hu : u < g.length) → w < g.length → u < w → (w : Int) ∈ g[u] → Together bags u w := by
      intro u w hu hwn huw hm
      have : [(u : Int), (w : Int)] ∈ edges g := by
        unfold edges
        refine List.mem_flatMap.2 ⟨u, List.mem_range.2 hu, List.mem_map.2 ⟨(w : Int), List.mem_filter.2 ⟨?_, by simpa using huw⟩, rfl⟩⟩
        rw [show g.getD u [] = g[u] by simp [hu]]; exact hm
      obtain ⟨k, hk, e⟩ := List.getElem_of_mem this
      obtain ⟨u', w', e2, ht⟩ := h k hk
      rw [e] at e2
      simp only [List.cons.injEq, and_true] at e2
      have e3 : u = u' := by omega
      have e4 : w = w' := by omega
      rw [e3, e4]; exact ht
    rcases Nat.lt_trichotomy u w with g1 | g1 | g1
    · exact key u w hu hwn g1 hwg
    · subst g1; exact absurd hwg (hg.rows u hu).2
    · have h2 : ((nb g).getD w 0).testBit u = true := by
        rw [getD_get (by omega), ← hA.sym u w (by omega) (by omega), ← getD_get (show u < (nb g).length by omega)]; exact hw
      exact hsym _ _ (key w u hwn hu g1 ((hbit w hwn u).1 h2))
  · intro h k hk
    have hm := List.getElem_mem hk
    unfold edges at hm
    obtain ⟨u, hu, hm⟩ := List.mem_flatMap.1 hm
    obtain ⟨x, hx, e⟩ := List.mem_map.1 hm
    rw [List.mem_range] at hu
    rw [List.mem_filter, show g.getD u [] = g[u] by simp [hu]] at hx
    obtain ⟨w, rfl⟩ := Int.eq_ofNat_of_zero_le (hg.row_mem hu hx.1).1
    exact ⟨u, w, e.symm, h u hu w ((hbit u hu w).2 hx.1)⟩
theorem edges_small {g : List (List Int)} (hg : GOk g) : (edges g).length ≤ 256 := by
  have := edges_part hg g.length (Nat.le_refl _)
  have h16 := hg.n16
  unfold edges; omega
theorem whole_reached {bags links : List (List Int)} (hn : bags.length ≤ 16) (hll : links.length ≤ 16) (h : LinksOk links bags.length) {v : Nat} (h0 : wset bags v bags.length ≠ 0) :
    F_spec_l9Reached bags links (ints (els (wset bags v bags.length))) = some (card (reach (lnets bags.length links) (wset bags v bags.length) (low (wset bags v bags.length))) : Int) ∧
    (card (reach (lnets bags.length links) (wset bags v bags.length) (low (wset bags v bags.length))) = card (wset bags v bags.length) ↔ reach (lnets bags.length links) (wset bags v bags.length) (low (wset bags v bags.length)) = wset bags v bags.length) := by
  have hlt := wset_lt bags v bags.length
  have hp := pow16 hn
  exact ⟨l9Reached_eq hn hll h hlt h0, card_eq_iff (by omega) (reach_in (by omega) (low_bit h0))⟩
open Classical in
theorem specDecompOk_eq (g bags links : List (List Int)) (hgl : g.length ≤ 1048576) (hl : ∀ x ∈ g, x.length ≤ 1048576) (hb : bags.length ≤ 1048576) (hbr : ∀ x ∈ bags, x.length ≤ 1048576) (hll : links.length ≤ 1048576) (hlr : ∀ x ∈ links, x.length ≤ 1048576) :
    F_spec_DecompOk g bags links = some (decide (DecOk g bags links)) := by
  have no : ∀ {q : Prop}, ¬ q → (DecOk g bags links → q) → some false = some (decide (DecOk g bags links)) := fun h1 h2 => congrArg some (decide_eq_false (fun h => h1 (h2 h))).symm
  unfold F_spec_DecompOk
  rw [cal_of (specGraphOk_eq g hl)]
  by_cases hg : GOk g
  case neg => rw [if_pos (by simp [hg])]; exact no hg (·.graph)
  have h16 := hg.n16
  rw [if_neg (by simp [hg]), cal_of (l9Tree_eq hb hll hlr)]
  by_cases ht : (1 ≤ bags.length ∧ bags.length ≤ 16) ∧ LinksOk links bags.length ∧ links.length + 1 = bags.length ∧ IsTree bags links
  case neg => rw [if_pos (by simpa using ht)]; exact no ht (fun h => ⟨⟨h.n1, h.n16⟩, h.lk, h.many, h.tree⟩)
  rw [if_neg (by simp only [decide_eq_true_iff, Classical.not_not]; exact ht)]
  obtain ⟨⟨n1, n16⟩, lk, many, tree⟩ := ht
  have hll16 : links.length ≤ 16 := by omega
  have key1 := lp_allC (step := fun s => F_spec_DecompOk_l1 g bags s) (fun k => (k : Int)) bags.length (fun k => ∀ h : k < bags.length, Rises bags[k] g.length) (∀ b ∈ bags, Rises b g.length) (oT := .inl ()) (oF := .inr false) ?_ ?_ ?_ ?_
  · rw [show (0 : Int) = ((0 : Nat) : Int) from rfl, key1, bnd_if]
    by_cases hrow : ∀ b ∈ bags, Rises b g.length
    case neg => rw [if_neg hrow]; exact no hrow (·.rows)
    rw [if_pos hrow]
    unfold F_spec_DecompOk_k2
    rw [cal_of (l1Edges_eq hg)]
    have hes := edges_small hg
    have hed : ∀ k (h : k < (edges g).length), ∃ u w : Nat, (edges g)[k] = [(u : Int), (w : Int)] := by
      intro k hk
      have hm := List.getElem_mem hk
      unfold edges at hm
      obtain ⟨u, hu, hm⟩ := List.mem_flatMap.1 hm
      obtain ⟨x, hx, e⟩ := List.mem_map.1 hm
      rw [List.mem_range] at hu
      rw [List.mem_filter, show g.getD u [] = g[u] by simp [hu]] at hx
      obtain ⟨w, rfl⟩ := Int.eq_ofNat_of_zero_le (hg.row_mem hu hx.1).1
      exact ⟨u, w, e.symm⟩
    have key2 := lp_allC (step := fun s => F_spec_DecompOk_l3 bags links s.1 s.2) (fun k => (edges g, (k : Int))) (edges g).length (fun k => ∀ h : k < (edges g).length, ∃ u w : Nat, (edges g)[k] = [(u : Int), (w : Int)] ∧ Together bags u w)
      (∀ u, u < g.length → ∀ w, ((nb g).getD u 0).testBit w = true → Together bags u w) (oT := .inl ()) (oF := .inr false) ?_ ?_ ?_ ?_
    · rw [show ((0 : Nat) : Int) = 0 from rfl] at key2
      rw [key2, bnd_if]
      by_cases hE : ∀ u, u < g.length → ∀ w, ((nb g).getD u 0).testBit w = true → Together bags u w
      case neg => rw [if_neg hE]; exact no hE (·.edges)
      rw [if_pos hE]
      unfold F_spec_DecompOk_k4
      have key3 := lp_allC (step := fun s => F_spec_DecompOk_l5 g bags links s) (fun k => (k : Int)) g.length (fun v => Whole bags links v) (∀ v, v < g.length → Whole bags links v) (oT := .inl ()) (oF := .inr false) Iff.rfl ?_ ?_ ?_
      · rw [show ((0 : Nat) : Int) = 0 from rfl] at key3
        rw [key3, bnd_if]
        unfold F_spec_DecompOk_k6
        by_cases hW : ∀ v, v < g.length → Whole bags links v
        · rw [if_pos hW]; exact congrArg some (decide_eq_true ⟨hg, n1, n16, many, lk, tree, hrow, hE, hW⟩).symm
        · rw [if_neg hW]; exact no hW (·.whole)
      · intro v hv _ hp
        simp only [F_spec_DecompOk_l5, F_spec_l1Size, cal_some_eq]
        obtain ⟨p1, p2⟩ := hp
        obtain ⟨w1, w2⟩ := whole_reached n16 hll16 lk p1
        have hlt := wset_lt bags v bags.length
        have hp16 := pow16 n16
        have hc := card_pos p1 (by omega)
        have hcard := w2.2 p2
        unfold card at hc hcard w1
        rw [if_pos (by omega), cal_of (l9With_eq n16 hbr v), ints_len, if_neg (by omega), cal_of w1, if_neg (by omega), ck_of (inI (by omega) (by omega))]; rfl
      · intro v hv _ hp
        simp only [F_spec_DecompOk_l5, F_spec_l1Size, cal_some_eq]
        rw [if_pos (by omega), cal_of (l9With_eq n16 hbr v), ints_len]
        by_cases p1 : wset bags v bags.length = 0
        · rw [p1, els_zero, if_pos (by simp)]
        · obtain ⟨w1, w2⟩ := whole_reached n16 hll16 lk p1
          have hlt := wset_lt bags v bags.length
          have hp16 := pow16 n16
          have hc := card_pos p1 (by omega)
          have p2 : ¬ _ := fun h => hp ⟨p1, w2.1 h⟩
          unfold card at hc p2 w1
          rw [if_neg (by omega), cal_of w1, if_pos (by omega)]
      · intro _
        simp only [F_spec_DecompOk_l5, F_spec_l1Size, cal_some_eq]
        rw [if_neg (by omega)]
    · rw [← edges_all hg]
      exact ⟨fun h k hk _ => h k hk, fun h k hk => h k hk hk⟩
    · intro k hk _ hp
      obtain ⟨u, w, e, ht⟩ := hp hk
      simp only [F_spec_DecompOk_l3]
      rw [if_pos (by omega), idx_nat hk, e, cal_of (l9In_eq hb hbr), if_neg (by simpa using ht), ck_of (inI (by omega) (by omega))]; rfl
    · intro k hk _ hp
      obtain ⟨u, w, e⟩ := hed k hk
      have ht : ¬ Together bags u w := fun h => hp fun _ => ⟨u, w, e, h⟩
      simp only [F_spec_DecompOk_l3]
      rw [if_pos (by omega), idx_nat hk, e, cal_of (l9In_eq hb hbr), if_pos (by simpa using ht)]
    · intro _
      simp only [F_spec_DecompOk_l3]
      rw [if_neg (by omega)]
  · constructor
    · exact fun h k _ hk => h _ (List.getElem_mem hk)
    · intro h b hbm
      obtain ⟨k, hk, rfl⟩ := List.getElem_of_mem hbm
      exact h k hk hk
  · intro k hk _ hp
    have := hbr _ (List.getElem_mem hk)
    simp only [F_spec_DecompOk_l1, F_spec_l1Size, cal_some_eq]
    rw [if_pos (by omega), idx_nat hk, cal_of (l1Set_eq _ _ (by omega) (by omega) (by omega)), if_neg (by simpa using hp hk), ck_of (inI (by omega) (by omega))]; rfl
  · intro k hk _ hp
    have := hbr _ (List.getElem_mem hk)
    have hp2 : ¬ Rises bags[k] g.length := fun h => hp fun _ => h
    simp only [F_spec_DecompOk_l1, F_spec_l1Size, cal_some_eq]
    rw [if_pos (by omega), idx_nat hk, cal_of (l1Set_eq _ _ (by omega) (by omega) (by omega)), if_pos (by simpa using hp2)]
  · intro _
    simp only [F_spec_DecompOk_l1]
    rw [if_neg (by omega)]
open Classical in
theorem goodLinks_eq {links : List (List Int)} {n : Nat} (hn : n ≤ 1048576) (hll : links.length ≤ 1048576) (hlr : ∀ x ∈ links, x.length ≤ 1048576) : F_impl_goodLinks links (n : Int) = some (decide (LinksOk links n)) := by
  unfold F_impl_goodLinks
  rw [hasF_Sint64 links _ (fun l => !decide (l.length = 2 ∧ Rises l n)) hll (fun l hl => ?_), cal_some_eq]
  · refine congrArg some ?_
    rw [Bool.eq_iff_iff, Bool.not_eq_true', List.any_eq_false, decide_eq_true_iff]
    unfold LinksOk
    constructor
    · intro h l hl; have := h l hl; simpa using this
    · intro h l hl; simpa using h l hl
  · unfold F_impl_goodLinks_1
    have := hlr l hl
    by_cases h : l.length = 2
    · rw [if_neg (by omega), cal_of (increasing_eq _ _ (by omega) (by omega) (by omega))]; simp [h]
    · rw [if_pos (by omega)]; simp [h]
theorem covers_iff {g bags : List (List Int)} (hg : GOk g) (hrow : ∀ b ∈ bags, Rises b g.length) : Covers (nb g) (bags.map mk) ↔ (∀ v, v < g.length → wset bags v bags.length ≠ 0) ∧ ∀ u, u < g.length → ∀ w, ((nb g).getD u 0).testBit w = true → Together bags u w := by
  have hm : ∀ b ∈ bags, ∀ v : Nat, (mk b).testBit v = true ↔ (v : Int) ∈ b := fun b hb v => by
    rw [mk_mem (fun x hx => ((hrow b hb).mem hx).1), decide_eq_true_iff]
  have hw : ∀ v, wset bags v bags.length ≠ 0 ↔ ∃ b ∈ bags, (v : Int) ∈ b := by
    intro v
    constructor
    · intro h
      obtain ⟨h1, h2⟩ := wset_bit.1 (low_bit h)
      refine ⟨_, List.getElem_mem h1, ?_⟩
      rwa [show bags.getD (low (wset bags v bags.length)) [] = bags[low (wset bags v bags.length)] by simp [h1]] at h2
    · rintro ⟨b, hb, hv⟩ e
      obtain ⟨k, hk, rfl⟩ := List.getElem_of_mem hb
      have : (wset bags v bags.length).testBit k = true := wset_bit.2 ⟨hk, by rw [show bags.getD k [] = bags[k] by simp [hk]]; exact hv⟩
      rw [e, Nat.zero_testBit] at this; cases this
  unfold Covers
  rw [nb_len]
  constructor
  · intro h
    refine ⟨fun v hv => (hw v).2 ?_, fun u hu w hb => ?_⟩
    · obtain ⟨⟨m, h1, h2⟩, _⟩ := h v hv
      obtain ⟨b, hb, rfl⟩ := List.mem_map.1 h1
      exact ⟨b, hb, (hm b hb v).1 h2⟩
    · obtain ⟨m, h1, h2, h3⟩ := (h u hu).2 w hb
      obtain ⟨b, hb, rfl⟩ := List.mem_map.1 h1
      exact ⟨b, hb, (hm b hb u).1 h2, (hm b hb w).1 h3⟩
  · rintro ⟨h1, h2⟩ v hv
    refine ⟨?_, fun j hj => ?_⟩
    · obtain ⟨b, hb, h3⟩ := (hw v).1 (h1 v hv)
      exact ⟨_, List.mem_map.2 ⟨b, hb, rfl⟩, (hm b hb v).2 h3⟩
    · obtain ⟨b, hb, h3, h4⟩ := h2 v hv j hj
      exact ⟨_, List.mem_map.2 ⟨b, hb, rfl⟩, (hm b hb v).2 h3, (hm b hb j).2 h4⟩
theorem wset_succ (bags : List (List Int)) (v k : Nat) : wset bags v (k + 1) = if (v : Int) ∈ bags.getD k [] then wset bags v k ||| 2 ^ k else wset bags v k := by
  apply bits_ext
  intro j
  rw [Bool.eq_iff_iff, wset_bit]
  split
  · rename_i h
    rw [Nat.testBit_or, Bool.or_eq_true, wset_bit, Nat.testBit_two_pow, decide_eq_true_iff]
    constructor
    · rintro ⟨h1, h2⟩
      by_cases e : j = k
      · exact .inr e.symm
      · exact .inl ⟨by omega, h2⟩
    · rintro (h1 | h1)
      · exact ⟨by omega, h1.2⟩
      · subst h1; exact ⟨by omega, h⟩
  · rename_i h
    rw [wset_bit]
    constructor
    · rintro ⟨h1, h2⟩
      by_cases e : j = k
      · subst e; exact absurd h2 h
      · exact ⟨by omega, h2⟩
    · rintro ⟨h1, h2⟩; exact ⟨by omega, h2⟩
open Classical in
theorem implDecompOk_eq (g bags links : List (List Int)) (hgl : g.length ≤ 1048576) (hl : ∀ x ∈ g, x.length ≤ 1048576) (hb : bags.length ≤ 1048576) (hbr : ∀ x ∈ bags, x.length ≤ 1048576) (hll : links.length ≤ 1048576) (hlr : ∀ x ∈ links, x.length ≤ 1048576) :
    F_impl_DecompOk g bags links = some (decide (DecOk g bags links)) := by
  have no : ∀ {q : Prop}, ¬ q → (DecOk g bags links → q) → some false = some (decide (DecOk g bags links)) := fun h1 h2 => congrArg some (decide_eq_false (fun h => h1 (h2 h))).symm
  unfold F_impl_DecompOk
  rw [cal_of (implGraphOk_eq g hgl hl)]
  by_cases hg : GOk g
  case neg => rw [if_pos (by simp [hg])]; exact no hg (·.graph)
  have h16 := hg.n16
  rw [if_neg (by simp [hg])]
  by_cases n1 : 1 ≤ bags.length
  case neg => rw [if_pos (by omega)]; exact no n1 (·.n1)
  rw [if_neg (by omega)]
  by_cases n16 : bags.length ≤ 16
  case neg => rw [if_pos (by omega)]; exact no n16 (·.n16)
  rw [if_neg (by omega), ck_of (inI (by omega) (by omega))]
  by_cases many : links.length + 1 = bags.length
  case neg => rw [if_pos (by omega)]; exact no many (·.many)
  rw [if_neg (by omega), cal_of (goodLinks_eq hb hll hlr)]
  by_cases lk : LinksOk links bags.length
  case neg => rw [if_pos (by simpa using lk)]; exact no lk (·.lk)
  rw [if_neg (by simpa using lk)]
  have hll16 : links.length ≤ 16 := by omega
  have hp16 := pow16 n16
  have hnl := nb_len g
  have key1 := lp_allC (step := fun s => F_impl_DecompOk_l1 g bags s) (fun k => (k : Int)) bags.length (fun k => ∀ h : k < bags.length, Rises bags[k] g.length) (∀ b ∈ bags, Rises b g.length) (oT := .inl ()) (oF := .inr false) ?_ ?_ ?_ ?_
  · rw [show (0 : Int) = ((0 : Nat) : Int) from rfl, key1, bnd_if]
    by_cases hrow : ∀ b ∈ bags, Rises b g.length
    case neg => rw [if_neg hrow]; exact no hrow (·.rows)
    rw [if_pos hrow]
    unfold F_impl_DecompOk_k2
    have hmask := bagMasks_eq hb (fun b hb v hv => by have := (hrow b hb).mem hv; omega) hbr
    have hml := lnets_len lk
    have hA16 : ∀ v (h : v < (lnets bags.length links).length), (lnets bags.length links)[v] < 2 ^ 16 := fun v h => by
      have := lnetsTo_lt lk (k := links.length) (Nat.le_refl _) (u := v) (by omega)
      rw [← getD_get h]; unfold lnets; omega
    have h2 : 2 ^ 1 ≤ 2 ^ bags.length := Nat.pow_le_pow_right (by decide) n1
    have hmk : ∀ m ∈ bags.map mk, m < 2 ^ 16 := fun m hm => by
      obtain ⟨b, hb, rfl⟩ := List.mem_map.1 hm
      exact mk_lt (k := 16) fun v hv => by have := (hrow b hb).mem hv; omega
    rw [cal_of (linkNets_eq n16 hll16 lk), cal_of hmask, cal_of (all_eq (by omega)), hml, cal_of (connected_eq (by omega) hA16 (by rw [hml]; omega))]
    by_cases tree : IsTree bags links
    case neg => rw [if_pos (by simp only [decide_eq_true_iff]; exact fun h => tree h.2)]; exact no tree (·.tree)
    rw [if_neg (by simp only [decide_eq_true_iff, Classical.not_not]; exact ⟨by omega, tree⟩), cal_of (netsOf_eq hg), cal_of (coversEdges_eq (by omega) (fun v h => nb_lt16 hg h) (by rw [List.length_map]; exact hb) hmk)]
    by_cases hC : Covers (nb g) (bags.map mk)
    case neg =>
      rw [if_pos (by simpa using hC)]
      exact no hC (fun h => (covers_iff hg hrow).2 ⟨fun v hv => (h.whole v hv).1, h.edges⟩)
    rw [if_neg (by simpa using hC)]
    obtain ⟨_, hE⟩ := (covers_iff hg hrow).1 hC
    have inner : ∀ v : Nat, v < 32 → lp (fun s => F_impl_DecompOk_l4 (bvs (bags.map mk)) (v : Int) s.1 s.2) (0#32, 0) = some (.inl (BitVec.ofNat 32 (wset bags v bags.length))) := by
      intro v hv
      refine lp_upto (fun k => (BitVec.ofNat 32 (wset bags v k), (k : Int))) bags.length rfl (fun k hk => ?_) ?_
      · simp only [F_impl_DecompOk_l4]
        have hk2 : k < (bags.map mk).length := by rw [List.length_map]; exact hk
        have e : (bags.map mk)[k] = mk bags[k] := by rw [List.getElem_map]
        have hbm := List.getElem_mem hk
        have hlt := hmk _ (List.getElem_mem hk2)
        have hbit : (mk bags[k]).testBit v = decide ((v : Int) ∈ bags[k]) := mk_mem (fun x hx => ((hrow _ hbm).mem hx).1) v
        rw [bvs_len, if_pos (by omega), idx_bvs hk2, cal_of (has_eq (by omega) hv), e, hbit, wset_succ, show bags.getD k [] = bags[k] by simp [hk]]
        by_cases h : (v : Int) ∈ bags[k]
        · rw [if_pos (by simpa using h), if_pos h, cal_of (one_eq (by omega)), ck_of (inI (by omega) (by omega)), bv_or]; rfl
        · rw [if_neg (by simpa using h), if_neg h, ck_of (inI (by omega) (by omega))]; rfl
      · simp only [F_impl_DecompOk_l4]
        rw [bvs_len, List.length_map, if_neg (by omega)]
    have key3 := lp_allC (step := fun s => F_impl_DecompOk_l3 g (bvs (lnets bags.length links)) (bvs (bags.map mk)) s) (fun k => (k : Int)) g.length (fun v => Whole bags links v) (∀ v, v < g.length → Whole bags links v) (oT := .inl ()) (oF := .inr false) Iff.rfl ?_ ?_ ?_
    · rw [show ((0 : Nat) : Int) = 0 from rfl] at key3
      rw [key3, bnd_if]
      unfold F_impl_DecompOk_k6
      by_cases hW : ∀ v, v < g.length → Whole bags links v
      · rw [if_pos hW]; exact congrArg some (decide_eq_true ⟨hg, n1, n16, many, lk, tree, hrow, hE, hW⟩).symm
      · rw [if_neg hW]; exact no hW (·.whole)
    · intro v hv _ hp
      simp only [F_impl_DecompOk_l3]
      have hlt := wset_lt bags v bags.length
      rw [if_pos (by omega), bnd_l (inner v (by omega))]
      unfold F_impl_DecompOk_k5
      rw [cal_of (connected_eq (by omega) hA16 (by rw [hml]; exact hlt)), if_neg (by simp only [decide_eq_true_iff, Classical.not_not]; exact hp), ck_of (inI (by omega) (by omega))]; rfl
    · intro v hv _ hp
      simp only [F_impl_DecompOk_l3]
      have hlt := wset_lt bags v bags.length
      rw [if_pos (by omega), bnd_l (inner v (by omega))]
      unfold F_impl_DecompOk_k5
      rw [cal_of (connected_eq (by omega) hA16 (by rw [hml]; exact hlt)), if_pos (by simp only [decide_eq_true_iff]; exact hp)]
    · intro _
      simp only [F_impl_DecompOk_l3]
      rw [if_neg (by omega)]
  · constructor
    · exact fun h k _ hk => h _ (List.getElem_mem hk)
    · intro h b hbm
      obtain ⟨k, hk, rfl⟩ := List.getElem_of_mem hbm
      exact h k hk hk
  · intro k hk _ hp
    have := hbr _ (List.getElem_mem hk)
    simp only [F_impl_DecompOk_l1]
    rw [if_pos (by omega), idx_nat hk, cal_of (increasing_eq _ _ (by omega) (by omega) (by omega)), if_neg (by simpa using hp hk), ck_of (inI (by omega) (by omega))]; rfl
  · intro k hk _ hp
    have := hbr _ (List.getElem_mem hk)
    have hp2 : ¬ Rises bags[k] g.length := fun h => hp fun _ => h
    simp only [F_impl_DecompOk_l1]
    rw [if_pos (by omega), idx_nat hk, cal_of (increasing_eq _ _ (by omega) (by omega) (by omega)), if_pos (by simpa using hp2)]
  · intro _
    simp only [F_impl_DecompOk_l1]
    rw [if_neg (by omega)]
end Go.Proofs.YtadagcgehcpelaaDoor

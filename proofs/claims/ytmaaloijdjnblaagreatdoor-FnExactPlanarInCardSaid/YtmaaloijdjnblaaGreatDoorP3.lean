/- Plain texts: Edges, RotG, RotL, LawGraph. -/
import Derived.Test.YtmaaloijdjnblaaGreatDoorP2
import Derived.Test.YtmaaloijdjnblaaGreatDoorP1
/- The edges of a graph: listed, counted; sums over all pairs. -/
namespace Go.Proofs.YtmaaloijdjnblaaGreatDoor
theorem rises_els {r : List Int} {n : Nat} (h : Rises r n) (hn : n ≤ 16) : r = ints (els (mk r)) := by
  have hlt : mk r < 2 ^ 16 := Nat.lt_of_lt_of_le h.lt (pow16 hn)
  have e : r.map Int.toNat = els (mk r) := by
    refine sorted_ext ?_ (els_sorted _) fun x => ?_
    · rw [List.pairwise_iff_getElem]
      intro i j hi hj hij
      simp only [List.length_map] at hi hj
      rw [List.getElem_map, List.getElem_map]
      have key : ∀ d i, (hi : i + d + 1 < r.length) → r[i] < r[i + d + 1] := by
        intro d
        induction d with
        | zero => intro i hi; have := (h (i + 1) (by omega)).2.2 (by omega); simpa using this
        | succ d ih => intro i hi; have h1 := ih i (by omega); have h2 := (h (i + (d + 1) + 1) hi).2.2 (by omega); simp only [Nat.add_sub_cancel] at h2; exact Int.lt_trans h1 h2
      obtain ⟨d, rfl⟩ : ∃ d, j = i + d + 1 := ⟨j - i - 1, by omega⟩
      have h1 := key d i hj
      have h2 := (h i hi).1
      omega
    · rw [List.mem_map, mem_els hlt, mk_bit, decide_eq_true_iff]
  unfold ints
  rw [← e, List.map_map]
  conv => lhs; rw [← List.map_id r]
  refine List.map_congr_left fun x hx => ?_
  have := h.mem hx
  simp; omega
theorem row_els {g : List (List Int)} (hg : GOk g) {v : Nat} (h : v < g.length) : g[v] = ints (els (mk g[v])) := rises_els (hg.rows v h).1 hg.n16
theorem nb_get {g : List (List Int)} {v : Nat} (h : v < g.length) : (nb g)[v]'(by rw [nb_len]; exact h) = mk g[v] := by simp [nb]
theorem nb_getD {g : List (List Int)} {v : Nat} (h : v < g.length) : (nb g).getD v 0 = mk g[v] := by rw [getD_get (by rw [nb_len]; exact h), nb_get h]
/-! ## sums -/
def sumTo (n : Nat) (f : Nat → Nat) : Nat := ((List.range n).map f).sum
theorem sumTo_succ (n : Nat) (f : Nat → Nat) : sumTo (n + 1) f = sumTo n f + f n := by unfold sumTo; rw [List.range_succ, List.map_append, List.sum_append]; simp
theorem sumTo_add (n : Nat) (f g : Nat → Nat) : sumTo n (fun i => f i + g i) = sumTo n f + sumTo n g := by
  induction n with
  | zero => rfl
  | succ n ih => rw [sumTo_succ, sumTo_succ, sumTo_succ, ih]; omega
theorem sumTo_congr {n : Nat} {f g : Nat → Nat} (h : ∀ i, i < n → f i = g i) : sumTo n f = sumTo n g := by
  unfold sumTo; rw [List.map_congr_left fun i hi => h i (List.mem_range.1 hi)]
theorem sumTo_zero {n : Nat} {f : Nat → Nat} (h : ∀ i, i < n → f i = 0) : sumTo n f = 0 := by
  induction n with
  | zero => rfl
  | succ n ih => rw [sumTo_succ, ih (fun i hi => h i (by omega)), h n (by omega)]
theorem sumTo_comm (n m : Nat) (f : Nat → Nat → Nat) : sumTo n (fun i => sumTo m (f i)) = sumTo m (fun j => sumTo n (fun i => f i j)) := by
  induction n with
  | zero => exact (sumTo_zero (fun _ _ => rfl)).symm
  | succ n ih =>
    rw [sumTo_succ, ih, ← sumTo_add]
    exact sumTo_congr fun j _ => by rw [sumTo_succ]
theorem sumTo_bit (n : Nat) (p : Nat → Bool) : (List.range n).countP p = sumTo n (fun i => if p i = true then 1 else 0) := by
  induction n with
  | zero => rfl
  | succ n ih => rw [countP_snoc, ih, sumTo_succ]
theorem card_sum {n s : Nat} (hn : n ≤ 16) (hs : s < 2 ^ n) : card s = sumTo n (fun w => if s.testBit w = true then 1 else 0) := by
  unfold card
  rw [els_range hn hs, ← List.countP_eq_length_filter, sumTo_bit]
def degSum (a : List Nat) : Nat := sumTo a.length fun u => card (a.getD u 0)
def above (u s : Nat) : Nat := (els s).countP fun w => decide (u < w)
theorem above_sum {n u s : Nat} (hn : n ≤ 16) (hs : s < 2 ^ n) : above u s = sumTo n (fun w => if (s.testBit w && decide (u < w)) = true then 1 else 0) := by
  unfold above
  rw [els_range hn hs, List.countP_filter, ← sumTo_bit]
  exact List.countP_congr fun w _ => by simp [and_comm]
theorem deg_even {a : List Nat} (ha : a.length ≤ 16) (hA : Sym a) : degSum a = 2 * sumTo a.length (fun u => above u (a.getD u 0)) := by
  have e1 : ∀ u, u < a.length → card (a.getD u 0) = above u (a.getD u 0) + sumTo a.length (fun w => if ((a.getD u 0).testBit w && decide (w < u)) = true then 1 else 0) := by
    intro u hu
    have hlt := hA.lt u hu
    rw [getD_get hu, card_sum ha hlt, above_sum ha hlt, ← sumTo_add]
    refine sumTo_congr fun w hw => ?_
    by_cases h : a[u].testBit w = true
    · have hne : u ≠ w := by intro e; subst e; rw [hA.irr u hu] at h; cases h
      rcases Nat.lt_or_gt_of_ne hne with g | g
      · simp [h, g, show ¬ w < u by omega]
      · simp [h, g, show ¬ u < w by omega]
    · simp [h]
  unfold degSum
  rw [sumTo_congr e1, sumTo_add, sumTo_comm]
  have e2 : sumTo a.length (fun j => sumTo a.length fun i => if ((a.getD i 0).testBit j && decide (j < i)) = true then 1 else 0) = sumTo a.length (fun u => above u (a.getD u 0)) := by
    refine sumTo_congr fun u hu => ?_
    rw [getD_get hu, above_sum ha (hA.lt u hu)]
    refine sumTo_congr fun w hw => ?_
    rw [getD_get hw, hA.sym w u hw hu]
  rw [e2]; omega
def edges (g : List (List Int)) : List (List Int) := (List.range g.length).flatMap fun u => ((g.getD u []).filter fun w => decide ((u : Int) < w)).map fun w => [(u : Int), w]
theorem edges_len {g : List (List Int)} (hg : GOk g) : 2 * (edges g).length = degSum (nb g) := by
  have h1 := nb_len g
  rw [deg_even (by have := hg.n16; omega) (nbs_sym hg)]
  congr 1
  unfold edges sumTo
  rw [List.length_flatMap, h1]
  congr 1
  refine List.map_congr_left fun u hu => ?_
  rw [List.mem_range] at hu
  rw [List.length_map, ← List.countP_eq_length_filter, nb_getD hu, show g.getD u [] = g[u] by simp [hu]]
  unfold above
  conv => lhs; rw [row_els hg hu]
  unfold ints
  rw [List.countP_map]
  exact List.countP_congr fun w _ => by simp
theorem filter_take_snoc {r : List Int} {p : Int → Bool} {k : Nat} (hk : k < r.length) : (r.take (k + 1)).filter p = (r.take k).filter p ++ (if p r[k] = true then [r[k]] else []) := by
  rw [take_succ_of hk, List.filter_append]; congr 1; by_cases h : p r[k] = true <;> simp [h]
theorem edges_part {g : List (List Int)} (hg : GOk g) : ∀ k, k ≤ g.length → ((List.range k).flatMap fun u => ((g.getD u []).filter fun w => decide ((u : Int) < w)).map fun w => [(u : Int), w]).length ≤ 16 * k
  | 0, _ => by simp
  | k + 1, hk => by
    rw [List.range_succ, List.flatMap_append, List.length_append]
    have h1 := edges_part hg k (by omega)
    have h2 := hg.row_len (v := k) (by omega)
    have h3 : ((g.getD k []).filter fun w => decide ((k : Int) < w)).length ≤ (g.getD k []).length := List.length_filter_le ..
    have e : g.getD k [] = g[k] := by simp [show k < g.length by omega]
    rw [e] at h3
    rw [List.flatMap_cons, List.flatMap_nil, List.append_nil, List.length_map, e]; omega
theorem l1Edges_eq {g : List (List Int)} (hg : GOk g) : F_spec_l1Edges g = some (edges g) := by
  have h16 := hg.n16
  unfold F_spec_l1Edges
  have key := lp_nums (step := fun s => F_spec_l1Edges_l1 g s.1 s.2) g.length (fun k => (List.range k).flatMap fun u => ((g.getD u []).filter fun w => decide ((u : Int) < w)).map fun w => [(u : Int), w]) (o := .inl (edges g)) (fun k hk => ?_) ?_
  · simp only [List.range_zero, List.flatMap_nil] at key
    rw [bnd_l key]; rfl
  · have hb := edges_part hg k (by omega)
    obtain ⟨acc, hacc⟩ : ∃ acc, acc = ((List.range k).flatMap fun u => ((g.getD u []).filter fun w => decide ((u : Int) < w)).map fun w => [(u : Int), w]) := ⟨_, rfl⟩
    rw [← hacc] at hb ⊢
    have hr := hg.row_len hk
    have hgd : g.getD k [] = g[k] := by simp [hk]
    simp only [F_spec_l1Edges_l1, F_spec_l1Size]
    rw [cal_some_eq, if_pos (by omega)]
    have inner := lp_nums (step := fun s => F_spec_l1Edges_l2 g (k : Int) s.1 s.2) g[k].length (fun j => acc ++ ((g[k].take j).filter fun w => decide ((k : Int) < w)).map fun w => [(k : Int), w]) (o := .inl (acc ++ (g[k].filter fun w => decide ((k : Int) < w)).map fun w => [(k : Int), w])) (fun j hj => ?_) ?_
    · simp only [List.take_zero, List.filter_nil, List.map_nil, List.append_nil] at inner
      rw [inner, bnd_inl_eq]
      unfold F_spec_l1Edges_k3
      rw [ck_of (inI (by omega) (by omega)), List.range_succ, List.flatMap_append, ← hacc, List.flatMap_cons, List.flatMap_nil, List.append_nil, hgd]
      rfl
    · have hl : ((g[k].take j).filter fun w => decide ((k : Int) < w)).length ≤ 16 := by
        have := List.length_filter_le (fun w => decide ((k : Int) < w)) (g[k].take j)
        simp at this ⊢; omega
      simp only [F_spec_l1Edges_l2]
      rw [idx_nat hk, if_pos (by omega), idx_nat hk, idx_nat hj, filter_take_snoc hj]
      by_cases h : (k : Int) < g[k][j]
      · rw [if_pos h, idx_nat hk, idx_nat hj, app1_s (by simp; omega), ck_of (inI (by omega) (by omega))]
        simp [h]
      · rw [if_neg h, ck_of (inI (by omega) (by omega))]
        simp [h]
    · simp only [F_spec_l1Edges_l2]
      rw [idx_nat hk, if_neg (by omega), List.take_length]
  · simp only [F_spec_l1Edges_l1, F_spec_l1Size]
    rw [cal_some_eq, if_neg (by omega)]; rfl
end Go.Proofs.YtmaaloijdjnblaaGreatDoor

/- The reference: planar just where a system of genus 0 is. -/
namespace Go.Proofs.YtmaaloijdjnblaaGreatDoor
def eP (g : List (List Int)) : List (Int × Int) := (List.range g.length).flatMap fun u : Nat => ((g.getD u []).filter fun w => decide ((u : Int) < w)).map fun w => ((u : Int), w)
theorem eP_pr (g : List (List Int)) : (eP g).map pr = edges g := by
  unfold eP edges
  rw [List.map_flatMap]
  congr 1; funext u
  rw [List.map_map]; rfl
theorem mem_eP {g : List (List Int)} (e : Int × Int) : e ∈ eP g ↔ 0 ≤ e.1 ∧ e.1 < g.length ∧ e.2 ∈ g.getD e.1.toNat [] ∧ e.1 < e.2 := by
  unfold eP
  rw [List.mem_flatMap]
  constructor
  · rintro ⟨u, hu, he⟩
    rw [List.mem_range] at hu
    obtain ⟨w, hw, rfl⟩ := List.mem_map.1 he
    rw [List.mem_filter, decide_eq_true_iff] at hw
    exact ⟨by simp, by simpa using hu, by simpa using hw.1, hw.2⟩
  · rintro ⟨h0, h1, h2, h3⟩
    refine ⟨e.1.toNat, List.mem_range.2 (by omega), List.mem_map.2 ⟨e.2, List.mem_filter.2 ⟨h2, ?_⟩, ?_⟩⟩
    · rw [decide_eq_true_iff]; omega
    · rw [Int.toNat_of_nonneg h0]
theorem GOk.getD {g : List (List Int)} {v : Nat} (h : v < g.length) : g.getD v [] = g[v] := by simp [List.getD_eq_getElem?_getD, h]
theorem rises_nd {s : List Int} {n : Int} (h : Rises s n) : s.Nodup := by
  have key : ∀ j k (hj : j < s.length) (hk : k < s.length), j < k → s[j] < s[k] := fun j k => by
    induction k with
    | zero => intro _ _ h; omega
    | succ k ih =>
      intro hj hk hjk
      have h1 := (h (k + 1) hk).2.2 (by omega)
      have h1 : s[k] < s[k + 1] := h1
      by_cases e : j = k
      · subst e; exact h1
      · have := ih hj (by omega) (by omega); omega
  rw [List.Nodup, List.pairwise_iff_getElem]
  exact fun i j hi hj hij e => by have := key i j hi hj hij; omega
theorem eP_el {g : List (List Int)} (hg : GOk g) (a b : Int) : El (eP g) a b ↔ 0 ≤ a ∧ a < g.length ∧ b ∈ g.getD a.toNat [] := by
  unfold El
  rw [mem_eP, mem_eP]
  have key : ∀ a b : Int, 0 ≤ a → a < g.length → b ∈ g.getD a.toNat [] → (0 ≤ b ∧ b < g.length) ∧ a ∈ g.getD b.toNat [] ∧ a ≠ b := fun a b h0 h1 h2 => by
    rw [GOk.getD (by omega)] at h2
    have hb := hg.row_mem (v := a.toNat) (by omega) h2
    have hs := hg.sym a.toNat (by omega) b h2 (by omega)
    rw [Int.toNat_of_nonneg h0] at hs
    refine ⟨hb, by rw [GOk.getD (by omega)]; exact hs, fun e => ?_⟩
    subst e
    have := (hg.rows a.toNat (by omega)).2
    rw [Int.toNat_of_nonneg h0] at this
    exact this h2
  constructor
  · rintro (⟨h0, h1, h2, h3⟩ | ⟨h0, h1, h2, h3⟩)
    · exact ⟨h0, h1, h2⟩
    · have := key _ _ h0 h1 h2
      exact ⟨this.1.1, this.1.2, this.2.1⟩
  · rintro ⟨h0, h1, h2⟩
    have := key _ _ h0 h1 h2
    rcases Int.lt_trichotomy a b with g | g | g
    · exact .inl ⟨h0, h1, h2, g⟩
    · exact absurd g this.2.2
    · exact .inr ⟨this.1.1, this.1.2, this.2.1, g⟩
theorem eP_ue {g : List (List Int)} (hg : GOk g) : UE (eP g) where
  ne e he := by have := (mem_eP e).1 he; omega
  once := by
    have nd : (eP g).Nodup := by
      unfold eP
      have key : ∀ l : List Nat, l.Nodup → (∀ u ∈ l, u < g.length) → (l.flatMap fun u : Nat => ((g.getD u []).filter fun w => decide ((u : Int) < w)).map fun w => ((u : Int), w)).Nodup := fun l => by
        induction l with
        | nil => intro _ _; simp
        | cons a l ih =>
          intro hl hb
          rw [List.nodup_cons] at hl
          rw [List.flatMap_cons, List.nodup_append]
          have hrow : (g.getD a []).Nodup := by rw [GOk.getD (hb a (by simp))]; exact rises_nd (hg.rows a (hb a (by simp))).1
          refine ⟨List.pairwise_map.2 ((hrow.filter _).imp fun hne e => hne (congrArg Prod.snd e)), ih hl.2 fun u hu => hb u (by simp [hu]), fun x hx y hy e => ?_⟩
          obtain ⟨v, hv, rfl⟩ := List.mem_map.1 hx
          obtain ⟨b, hb, hy⟩ := List.mem_flatMap.1 hy
          obtain ⟨v', hv', rfl⟩ := List.mem_map.1 hy
          have := congrArg Prod.fst e
          simp only [Int.natCast_inj] at this
          subst this; exact hl.1 hb
      exact key _ List.nodup_range fun u hu => List.mem_range.1 hu
    have hm : ∀ e ∈ eP g, e.1 < e.2 := fun e he => ((mem_eP e).1 he).2.2.2
    refine List.Pairwise.imp_of_mem (fun {a b} ha hb hne => ⟨hne, fun e => ?_⟩) nd
    have h1 := hm a ha; have h2 := hm b hb
    rw [← e] at h2
    have h2 : a.2 < a.1 := h2
    omega
open Classical in
theorem l26Small_eqR (g : List (List Int)) (hl : ∀ x ∈ g, x.length ≤ 1048576) : F_spec_l26Small g = some (decide (GOk g ∧ g.length ≤ 8)) := by
  unfold F_spec_l26Small
  rw [cal_of (specGraphOk_eq g hl)]
  by_cases hg : GOk g
  · rw [if_pos (by simp [hg])]; congr 1; rw [Bool.eq_iff_iff]; simp [hg]; omega
  · rw [if_neg (by simp [hg])]; simp [hg]
def Pln (g : List (List Int)) : Prop := ∃ R, Sys (eP g) R ∧ Tw R 0
theorem pln_few {g : List (List Int)} (hg : GOk g) (hp : Pln g) (h3 : 3 ≤ g.length) : (eP g).length + 6 ≤ 3 * g.length := by
  obtain ⟨R, hR, hT⟩ := hp
  have hU := eP_ue hg
  refine euler (ds := eP g ++ (eP g).map fun e => (e.2, e.1)) hR.1 (fun x hx => ?_) hT ?_ (fun d => ?_) (by simp; omega) h3
  · obtain ⟨y, hy⟩ := ni_iff.1 hx
    have := (eP_el hg x y).1 ((hR.2 x y).1 hy)
    exact ⟨this.1, this.2.1⟩
  · have nd : (eP g).Nodup := hU.once.imp fun h => h.1
    rw [List.nodup_append]
    refine ⟨nd, List.pairwise_map.2 (nd.imp fun hne e => hne (Prod.ext (congrArg Prod.snd e) (congrArg Prod.fst e))), fun a ha b hb e => ?_⟩
    obtain ⟨c, hc, rfl⟩ := List.mem_map.1 hb
    have h1 := ((mem_eP a).1 ha).2.2.2; have h2 := ((mem_eP c).1 hc).2.2.2
    rw [e] at h1
    have h1 : c.2 < c.1 := h1
    omega
  · show d ∈ _ ↔ d.2 ∈ R d.1
    rw [hR.2]
    unfold El
    rw [List.mem_append, List.mem_map]
    constructor
    · rintro (h | ⟨e, he, rfl⟩)
      · exact .inl h
      · exact .inr he
    · rintro (h | h)
      · exact .inl h
      · exact .inr ⟨_, h, rfl⟩
theorem tok_empty {n : Nat} (h : n ≤ 8) : Tok (List.replicate n []) := by
  have e : ∀ x, rho (List.replicate n []) x = [] := fun x => by
    unfold rho; split
    · rw [List.getD_eq_getElem?_getD, List.getElem?_replicate]; split <;> rfl
    · rfl
  exact ⟨by simpa using h, by rw [show rho (List.replicate n []) = fun _ => [] from funext e]; exact rs_nil, fun x y hy => by rw [e] at hy; cases hy⟩
theorem rho_empty (n : Nat) : rho (List.replicate n []) = fun _ => [] := funext fun x => by
  unfold rho; split
  · rw [List.getD_eq_getElem?_getD, List.getElem?_replicate]; split <;> rfl
  · rfl
theorem l1Copy_all (l : List Int) (h : l.length ≤ 1048576) : F_spec_l1Copy l = some l := by
  unfold F_spec_l1Copy
  rw [app_s (by simp; omega)]; rfl
theorem searched {g : List (List Int)} (hg : GOk g) (h8 : g.length ≤ 8) (hm : (eP g).length ≤ 18) :
    ∃ (k : Nat) (b : List (List Int)), F_spec_l22Search (edges g) (List.replicate g.length []) 0 [] = some ((k : Int), b) ∧ (0 < k ↔ Pln g) := by
  have hU := eP_ue hg
  have hr : Rdy (List.replicate g.length []) (eP g) := ⟨tok_empty h8, ⟨[], fun a b => by rw [rho_empty]; simp [El], hU⟩, fun e he => by
    have h1 := (eP_el hg e.1 e.2).1 (.inl he); have h2 := (eP_el hg e.2 e.1).1 (.inr he)
    rw [List.length_replicate]; exact ⟨⟨h1.1, h1.2.1⟩, h2.1, h2.2.1⟩⟩
  have hle := S22_le (eP g) _ (0, []) hr
  have hlens : lens (List.replicate g.length ([] : List Int)) = List.replicate g.length 0 := by unfold lens; rw [List.map_replicate]; rfl
  rw [hlens, GL_zero, Nat.mul_one, Nat.zero_add] at hle
  have h9 : 9 ^ (eP g).length ≤ 9 ^ 18 := Nat.pow_le_pow_right (by decide) hm
  have h62 : 9 ^ 18 ≤ 2 ^ 62 := by decide
  have hs := search_eq l1Copy_all hr (w := (0, [])) (by omega) (by omega) (.inl rfl)
  rw [eP_pr] at hs
  refine ⟨_, _, hs, ?_⟩
  rw [S22_fnd (eP g) _ (0, []) hr, rho_empty]
  exact fndR_iff hU
open Classical in
theorem specPlanarIn_eq (g : List (List Int)) (hgl : g.length ≤ 1048576) (hl : ∀ x ∈ g, x.length ≤ 1048576) : F_spec_PlanarIn g = some (decide ((GOk g ∧ g.length ≤ 8) ∧ Pln g)) := by
  unfold F_spec_PlanarIn F_spec_EmbeddingOf
  rw [cal_of (l26Small_eqR g hl)]
  by_cases hg : GOk g ∧ g.length ≤ 8
  · rw [if_neg (by simp [hg])]
    have hlen : (eP g).length = (edges g).length := by rw [← eP_pr, List.length_map]
    have hall : ∃ (k : Nat) (b : List (List Int)), F_spec_l22All g = some ((k : Int), b) ∧ (0 < k ↔ Pln g) := by
      unfold F_spec_l22All
      rw [cal_of (l1Edges_eq hg.1)]
      by_cases h3 : 3 ≤ g.length
      · rw [if_pos (by omega), ck_of (inI (by omega) (by omega)), ck_of (inI (by omega) (by omega))]
        by_cases hm : (eP g).length + 6 ≤ 3 * g.length
        · obtain ⟨k, b, h1, h2⟩ := searched hg.1 hg.2 (by omega)
          rw [if_neg (by omega), mkS_of (by omega) (by show _ ≤ 1099511627776; omega), Int.toNat_natCast, cal_of h1]
          exact ⟨k, b, rfl, h2⟩
        · rw [if_pos (by omega)]
          exact ⟨0, [], rfl, by omega, fun hp => absurd (pln_few hg.1 hp h3) hm⟩
      · have hm : (eP g).length ≤ 18 := by
          rw [hlen]
          have := edges_part hg.1 g.length (Nat.le_refl _)
          have h1 := edges_len hg.1
          have h2 : degSum (nb g) ≤ g.length * 2 := by
            unfold degSum
            rw [nb_len]
            have key : ∀ k, k ≤ g.length → sumTo k (fun u => card ((nb g).getD u 0)) ≤ k * 2 := fun k => by
              induction k with
              | zero => intro _; simp [sumTo]
              | succ k ih =>
                intro hk
                rw [sumTo_succ]
                have := ih (by omega)
                have hrow : card ((nb g).getD k 0) ≤ 2 := by
                  rw [nb_getD (by omega)]
                  have hr := rises_els (hg.1.rows k (by omega)).1 (by omega)
                  have hl := (hg.1.rows k (by omega)).1.len (by omega)
                  have : (ints (els (mk g[k]))).length = g[k].length := by rw [← hr]
                  rw [ints_len] at this
                  unfold card; omega
                omega
            exact key _ (Nat.le_refl _)
          omega
        obtain ⟨k, b, h1, h2⟩ := searched hg.1 hg.2 hm
        rw [if_neg (by omega), mkS_of (by omega) (by show _ ≤ 1099511627776; omega), Int.toNat_natCast, cal_of h1]
        exact ⟨k, b, rfl, h2⟩
    obtain ⟨k, b, h1, h2⟩ := hall
    rw [cal_of h1]
    by_cases hk : k = 0
    · rw [if_pos (by simp [hk])]
      refine congrArg some ?_
      exact (decide_eq_false (show ¬ ((GOk g ∧ g.length ≤ 8) ∧ Pln g) from fun h => by have := h2.2 h.2; omega)).symm
    · rw [if_neg (by simp; omega)]
      refine congrArg some ?_
      exact (decide_eq_true (show (GOk g ∧ g.length ≤ 8) ∧ Pln g from ⟨hg, h2.1 (by omega)⟩)).symm
  · rw [if_pos (by simp [hg])]
    refine congrArg some ?_
    exact (decide_eq_false (show ¬ ((GOk g ∧ g.length ≤ 8) ∧ Pln g) from fun h => hg h.1)).symm
end Go.Proofs.YtmaaloijdjnblaaGreatDoor

/- The program's order of the edges. -/
namespace Go.Proofs.YtmaaloijdjnblaaGreatDoor
def Ms (m : Nat) (x : Int) : Prop := ∃ k : Nat, x = (k : Int) ∧ m.testBit k = true
theorem ms_nat {m k : Nat} : Ms m (k : Int) ↔ m.testBit k = true :=
  ⟨fun ⟨j, e, h⟩ => by obtain rfl : k = j := by omega
                       exact h, fun h => ⟨k, rfl, h⟩⟩
theorem nb_el {g : List (List Int)} (hg : GOk g) {v w : Nat} (hv : v < g.length) : ((nb g).getD v 0).testBit w = true ↔ El (eP g) (v : Int) (w : Int) := by
  rw [nb_getD hv, mk_mem (fun y hy => (hg.row_mem hv hy).1), decide_eq_true_iff, eP_el hg]
  constructor
  · intro h; exact ⟨by omega, by omega, by rw [Int.toNat_natCast, GOk.getD hv]; exact h⟩
  · rintro ⟨_, _, h⟩; rw [Int.toNat_natCast, GOk.getD hv] at h; exact h
theorem el_rng {g : List (List Int)} (hg : GOk g) {a b : Int} (h : El (eP g) a b) : ∃ v w : Nat, a = (v : Int) ∧ b = (w : Int) ∧ v < g.length ∧ w < g.length := by
  have h1 := (eP_el hg a b).1 h
  have h2 := (eP_el hg b a).1 h.symm
  exact ⟨a.toNat, b.toNat, by omega, by omega, by omega, by omega⟩
theorem gi_len {g : List (List Int)} (hg : GOk g) (h8 : g.length ≤ 8) {M : Int → Prop} {es : List (Int × Int)} (h : GI (El (eP g)) M es) : es.length ≤ 64 := by
  have := sub_len (l := es) (m := prs g.length) (h.ue.once.imp fun h => h.1) fun d hd => by
    obtain ⟨a, b⟩ := d
    obtain ⟨v, w, e1, e2, hv, hw⟩ := el_rng hg ((h.el a b).1 (.inl hd)).2.2
    unfold prs
    exact List.mem_flatMap.2 ⟨v, List.mem_range.2 hv, List.mem_map.2 ⟨w, List.mem_range.2 hw, by rw [e1, e2]⟩⟩
  rw [prs_len] at this
  have := n_sq h8
  omega
theorem pick_ex {a : List Nat} (ha : ∀ v (h : v < a.length), a[v] < 2 ^ 16) {m : Nat} {D : List Nat} (hD : ∀ v ∈ D, v < a.length) (hlen : D.length ≤ 16) (hne : D ≠ []) :
    ∃ v ∈ D, lp (fun s => F_impl_growthOf_l2 (bvs a) (BitVec.ofNat 32 m) (ints D) s.1 s.2.1 s.2.2) ((-1), (-1), 0) = some (.inl (v : Int)) ∧ ∀ w ∈ D, card (a.getD w 0 &&& m) ≤ card (a.getD v 0 &&& m) := by
  obtain ⟨o, h1, v, hv, rfl, h2⟩ : ∃ o, lp (fun s => F_impl_growthOf_l2 (bvs a) (BitVec.ofNat 32 m) (ints D) s.1 s.2.1 s.2.2) ((-1), (-1), 0) = some o ∧ ∃ v ∈ D, o = .inl (v : Int) ∧ ∀ w ∈ D, card (a.getD w 0 &&& m) ≤ card (a.getD v 0 &&& m) := by
    refine lp_rule (fun z => ∃ k : Nat, k ≤ D.length ∧ ((k = 0 ∧ z = ((-1), (-1), 0)) ∨ ∃ v ∈ D, z = ((v : Int), (card (a.getD v 0 &&& m) : Int), (k : Int)) ∧ ∀ w ∈ D.take k, card (a.getD w 0 &&& m) ≤ card (a.getD v 0 &&& m))) (fun z => D.length - z.2.2.toNat) _ ?_ _ ⟨0, by omega, .inl ⟨rfl, rfl⟩⟩
    rintro z ⟨k, hk, hz⟩
    have hz2 : z.2.2 = (k : Int) := by rcases hz with ⟨rfl, rfl⟩ | ⟨v, _, rfl, _⟩ <;> rfl
    by_cases h : k < D.length
    · have hv := hD _ (List.getElem_mem h)
      have hav : a[D[k]] &&& m < 2 ^ 16 := Nat.lt_of_le_of_lt Nat.and_le_left (ha _ hv)
      have hgd : a.getD D[k] 0 = a[D[k]] := by simp [List.getD_eq_getElem?_getD, hv]
      have hstep : F_impl_growthOf_l2 (bvs a) (BitVec.ofNat 32 m) (ints D) z.1 z.2.1 z.2.2 = if z.2.1 < (card (a.getD D[k] 0 &&& m) : Int) then some (.inl ((D[k] : Int), (card (a.getD D[k] 0 &&& m) : Int), ((k + 1 : Nat) : Int))) else some (.inl (z.1, z.2.1, ((k + 1 : Nat) : Int))) := by
        simp only [F_impl_growthOf_l2]
        rw [hz2, if_pos (by rw [ints_len]; omega), idx_ints h, idx_bvs hv, bv_and, cal_of (size_eq hav), hgd]
        split
        · rw [ck_of (inI (by omega) (by omega))]; rfl
        · rw [ck_of (inI (by omega) (by omega))]; rfl
      have hms : ∀ z' : Int × Int × Int, z'.2.2 = ((k + 1 : Nat) : Int) → D.length - z'.2.2.toNat < D.length - z.2.2.toNat := fun z' e => by rw [e, hz2]; omega
      have htake : ∀ w ∈ D.take (k + 1), w ∈ D.take k ∨ w = D[k] := fun w hw => by
        rw [List.take_add_one, List.getElem?_eq_getElem h] at hw
        rcases List.mem_append.1 hw with q | q
        · exact .inl q
        · exact .inr (by simpa using q)
      refine .inl ?_
      by_cases hlt : z.2.1 < (card (a.getD D[k] 0 &&& m) : Int)
      · rw [if_pos hlt] at hstep
        refine ⟨_, hstep, ⟨k + 1, h, .inr ⟨D[k], List.getElem_mem h, rfl, fun w hw => ?_⟩⟩, hms _ rfl⟩
        rcases htake w hw with q | q
        · rcases hz with ⟨rfl, rfl⟩ | ⟨v, hvD, rfl, hall⟩
          · simp at q
          · have := hall w q
            dsimp only at hlt
            omega
        · rw [q]; exact Nat.le_refl _
      · rw [if_neg hlt] at hstep
        refine ⟨_, hstep, ⟨k + 1, h, ?_⟩, hms _ rfl⟩
        rcases hz with ⟨rfl, rfl⟩ | ⟨v, hvD, rfl, hall⟩
        · dsimp only at hlt; omega
        · refine .inr ⟨v, hvD, rfl, fun w hw => ?_⟩
          rcases htake w hw with q | q
          · exact hall w q
          · dsimp only at hlt
            rw [q]; omega
    · have hkl : k = D.length := by omega
      rcases hz with ⟨rfl, _⟩ | ⟨v, hvD, rfl, hall⟩
      · exact absurd (List.eq_nil_of_length_eq_zero hkl.symm) hne
      · refine .inr ⟨_, ?_, v, hvD, rfl, fun w hw => hall w (by rw [hkl, List.take_length]; exact hw)⟩
        simp only [F_impl_growthOf_l2]
        rw [if_neg (by rw [ints_len]; omega)]
  exact ⟨v, hv, h1, h2⟩
theorem growth_ex {g : List (List Int)} (hg : GOk g) (h8 : g.length ≤ 8) : ∃ es, F_impl_growthOf (bvs (nb g)) = some es ∧ UE es ∧ Grown es ∧ (∀ a b, El es a b ↔ El (eP g) a b) ∧ es.length ≤ 64 := by
  have hln := nb_len g
  have hpos : 0 < 2 ^ g.length := Nat.two_pow_pos _
  have hp8 : 2 ^ g.length ≤ 2 ^ 8 := Nat.pow_le_pow_right (by decide) h8
  have hall : F_impl_nets_all (bvs (nb g)) = some (BitVec.ofNat 32 (2 ^ g.length - 1)) := by have := all_eq (a := nb g) (by omega); rwa [hln] at this
  have hsym : ∀ a b, El (eP g) a b → El (eP g) b a := fun _ _ => El.symm
  have hirr : ∀ a, ¬ El (eP g) a a := fun a h => by
    rcases h with h | h <;> exact (eP_ue hg).ne _ h rfl
  obtain ⟨o, h1, es, rfl, h2⟩ : ∃ o, lp (fun s => F_impl_growthOf_l1 (bvs (nb g)) s.1 s.2) (([] : List (Int × Int)), 0#32) = some o ∧ ∃ es, o = .inl es ∧ GI (El (eP g)) (Ms (2 ^ g.length - 1)) es := by
    refine lp_rule (fun z => ∃ m : Nat, z.2 = BitVec.ofNat 32 m ∧ m < 2 ^ g.length ∧ GI (El (eP g)) (Ms m) z.1) (fun z => 2 ^ g.length - z.2.toNat) _ ?_ _ ⟨0, rfl, hpos, (GI.nil _).congr fun x => ⟨False.elim, fun ⟨k, _, h⟩ => by simp at h⟩⟩
    rintro ⟨es, u⟩ ⟨m, hu, hm, hI⟩
    dsimp only at hu hI
    subst hu
    have hm16 : m < 2 ^ 16 := by omega
    simp only [F_impl_growthOf_l1]
    rw [cal_of hall]
    by_cases he : m = 2 ^ g.length - 1
    · rw [if_neg (fun h => h (by rw [he]))]
      exact .inr ⟨_, rfl, es, rfl, by rw [← he]; exact hI⟩
    · have hDlt : sdiff (2 ^ g.length - 1) m < 2 ^ 16 := Nat.lt_of_le_of_lt (sdiff_le _ _) (by omega)
      have hDbit : ∀ j, (sdiff (2 ^ g.length - 1) m).testBit j = true ↔ j < g.length ∧ m.testBit j = false := fun j => by
        rw [sdiff_bit, Nat.testBit_two_pow_sub_one]; simp
      have hDmem : ∀ v, v ∈ els (sdiff (2 ^ g.length - 1) m) ↔ v < g.length ∧ m.testBit v = false := fun v => by rw [mem_els hDlt, hDbit]
      have hDne : els (sdiff (2 ^ g.length - 1) m) ≠ [] := fun e => by
        refine he (Nat.eq_of_testBit_eq fun j => ?_)
        rw [Nat.testBit_two_pow_sub_one]
        by_cases hj : j < g.length
        · have hn : j ∉ els (sdiff (2 ^ g.length - 1) m) := by rw [e]; simp
          rw [hDmem] at hn
          cases hb : m.testBit j with
          | true => simp [hj]
          | false => exact absurd ⟨hj, hb⟩ hn
        · have : m.testBit j = false := Nat.testBit_lt_two_pow (Nat.lt_of_lt_of_le hm (Nat.pow_le_pow_right (by decide) (by omega)))
          rw [this]; simp [hj]
      have hne32 : ¬ BitVec.ofNat 32 m = BitVec.ofNat 32 (2 ^ g.length - 1) := fun h => he ((bv_inj (by omega) (by omega)).1 h)
      obtain ⟨v, hvD, hpick, hmax⟩ := pick_ex (a := nb g) (fun v h => nb_lt16 hg h) (m := m) (D := els (sdiff (2 ^ g.length - 1) m)) (fun v hv => by rw [hln]; exact ((hDmem v).1 hv).1) (els_len_le _) hDne
      obtain ⟨hvn, hvm⟩ := (hDmem v).1 hvD
      have hvl : v < (nb g).length := by rw [hln]; exact hvn
      have hgd : ∀ {w : Nat} (hw : w < (nb g).length), (nb g).getD w 0 = (nb g)[w] := fun {w} hw => by simp [List.getD_eq_getElem?_getD, hw]
      have hav : ∀ w, (nb g).getD w 0 &&& m < 2 ^ 16 := fun w => Nat.lt_of_le_of_lt Nat.and_le_right hm16
      have hbit : ∀ {w : Nat}, w < g.length → ∀ j, ((nb g).getD w 0 &&& m).testBit j = true ↔ Ms m (j : Int) ∧ El (eP g) (w : Int) (j : Int) := fun {w} hw j => by
        rw [Nat.testBit_and, Bool.and_eq_true, nb_el hg hw, ms_nat]; exact And.comm
      obtain ⟨xs, hxs⟩ : ∃ xs, xs = els ((nb g).getD v 0 &&& m) := ⟨_, rfl⟩
      have hxl : xs.length ≤ 16 := by rw [hxs]; exact els_len_le _
      have hmemx : ∀ x : Int, x ∈ ints xs ↔ Ms m x ∧ El (eP g) (v : Int) x := fun x => by
        unfold ints
        rw [List.mem_map]
        constructor
        · rintro ⟨j, hj, rfl⟩
          rw [hxs, mem_els (hav v)] at hj
          exact (hbit hvn j).1 hj
        · rintro ⟨⟨j, rfl, hj⟩, he⟩
          exact ⟨j, by rw [hxs, mem_els (hav v)]; exact (hbit hvn j).2 ⟨ms_nat.2 hj, he⟩, rfl⟩
      have hndx : (ints xs).Nodup := by rw [hxs]; exact List.pairwise_map.2 ((els_nodup _).imp fun hne e => hne (by exact Int.ofNat.inj e))
      have hnew := hI.step hsym hirr (v := (v : Int)) (fun h => by rw [ms_nat, hvm] at h; cases h) hmemx hndx (fun h0 a b hMa hMb hab => by
        have hx0 : xs = [] := by unfold ints at h0; simpa using h0
        have hc0 : card ((nb g).getD v 0 &&& m) = 0 := by unfold card; rw [← hxs, hx0]; rfl
        obtain ⟨p, q, rfl, rfl, hp, hq⟩ := el_rng hg hab
        have hqm : m.testBit q = false := by
          cases hb : m.testBit q with
          | false => rfl
          | true => exact absurd (ms_nat.2 hb) hMb
        have hqD := (hDmem q).2 ⟨hq, hqm⟩
        have hz := hmax q hqD
        have hp2 := (hbit hq p).2 ⟨hMa, hab.symm⟩
        have : p ∈ els ((nb g).getD q 0 &&& m) := (mem_els (hav q)).2 hp2
        have : 0 < card ((nb g).getD q 0 &&& m) := List.length_pos_of_mem this
        omega)
      have hlen := gi_len hg h8 hnew
      rw [List.length_append, List.length_map, ints_len] at hlen
      have h4 : lp (fun s => F_impl_growthOf_l4 (v : Int) (ints xs) s.1 s.2) (es, 0) = some (.inl (es ++ (ints xs).map fun x => (x, (v : Int)))) := by
        refine lp_upto (fun k => (es ++ ((ints xs).take k).map fun x => (x, (v : Int)), (k : Int))) (ints xs).length (by simp) (fun k hk => ?_) ?_
        · have hk' := hk
          rw [ints_len] at hk'
          simp only [F_impl_growthOf_l4]
          rw [if_pos (by omega), idx_nat hk, app1_s (by simp; omega), ck_of (inI (by omega) (by omega)), take_succ_of hk, List.map_append, List.append_assoc]; rfl
        · simp only [F_impl_growthOf_l4]
          rw [if_neg (by omega), List.take_length]
      have hor : BitVec.ofNat 32 m ||| BitVec.ofNat 32 (2 ^ v) = BitVec.ofNat 32 (m ||| 2 ^ v) := bv_or _ _
      have hvlt : 2 ^ v < 2 ^ g.length := Nat.pow_lt_pow_right (by decide) hvn
      have horlt : m ||| 2 ^ v < 2 ^ g.length := Nat.or_lt_two_pow hm hvlt
      have hgt : m < m ||| 2 ^ v := by
        have hle : m ≤ m ||| 2 ^ v := Nat.left_le_or
        rcases Nat.lt_or_ge m (m ||| 2 ^ v) with q | q
        · exact q
        · exfalso
          have e : m ||| 2 ^ v = m := Nat.le_antisymm q hle
          have : (m ||| 2 ^ v).testBit v = true := by rw [Nat.testBit_or, Nat.testBit_two_pow_self]; simp
          rw [e, hvm] at this; cases this
      rw [if_pos hne32, cal_of hall, bv_andn (by omega), cal_of (list_eq hDlt), bnd_l hpick]
      unfold F_impl_growthOf_k3
      rw [idx_bvs hvl, bv_and, ← hgd hvl, cal_of (list_eq (hav v)), ← hxs, bnd_l h4]
      unfold F_impl_growthOf_k5
      rw [cal_of (one_eq (by omega)), hor]
      refine .inl ⟨_, rfl, ⟨m ||| 2 ^ v, rfl, horlt, hnew.congr fun x => ?_⟩, ?_⟩
      · constructor
        · rintro (⟨k, rfl, hk⟩ | rfl)
          · exact ⟨k, rfl, by rw [Nat.testBit_or, hk]; rfl⟩
          · exact ⟨v, rfl, by rw [Nat.testBit_or, Nat.testBit_two_pow_self]; simp⟩
        · rintro ⟨k, rfl, hk⟩
          rw [Nat.testBit_or, Bool.or_eq_true, Nat.testBit_two_pow] at hk
          rcases hk with q | q
          · exact .inl ⟨k, rfl, q⟩
          · have : v = k := by simpa using q
            exact .inr (by rw [this])
      · show 2 ^ g.length - (BitVec.ofNat 32 (m ||| 2 ^ v)).toNat < 2 ^ g.length - (BitVec.ofNat 32 m).toNat
        rw [bv_toNat (by omega), bv_toNat (by omega)]; omega
  refine ⟨es, ?_, h2.ue, h2.gr, fun a b => ?_, gi_len hg h8 h2⟩
  · unfold F_impl_growthOf
    rw [bnd_l h1]; rfl
  · rw [h2.el]
    refine ⟨fun h => h.2.2, fun h => ?_⟩
    obtain ⟨p, q, rfl, rfl, hp, hq⟩ := el_rng hg h
    exact ⟨⟨p, rfl, by rw [Nat.testBit_two_pow_sub_one]; simpa using hp⟩, ⟨q, rfl, by rw [Nat.testBit_two_pow_sub_one]; simpa using hq⟩, h⟩
end Go.Proofs.YtmaaloijdjnblaaGreatDoor

/- The laws' helpers over graphs. -/
namespace Go.Proofs.YtmaaloijdjnblaaGreatDoor
theorem szGraph_eq (g : List (List Int)) (n : Int) (h0 : 0 ≤ n) (h1 : n ≤ 1048576) (ha : Sz.ok g) :
    ∃ m, F_laws_szGraph g n = some m ∧ (m < 0 ∨ (0 ≤ m ∧ m ≤ n ∧ g.length ≤ 1048576 ∧ ∀ x ∈ g, x.length ≤ 1048576)) := by
  unfold F_laws_szGraph
  obtain ⟨m, hm, h⟩ := szInt64SS_eq g n h0 h1 ha
  rw [cal_of hm]
  by_cases h2 : m < 0
  · exact ⟨-1, by rw [if_pos h2], .inl (by decide)⟩
  · exact ⟨m, by rw [if_neg h2], h⟩
theorem toGraph_eq (g : List (List Int)) (h1 : g.length ≤ 1048576) (h2 : ∀ x ∈ g, x.length ≤ 1048576) : F_laws_toGraph g = some g := by
  unfold F_laws_toGraph
  rw [cal_of (toInt64SS_eq _ (by omega) (fun x hx => by have := h2 x hx; omega))]
theorem eqGraph_eq (g : List (List Int)) (h1 : g.length ≤ 1048576) (h2 : ∀ x ∈ g, x.length ≤ 1048576) : F_laws_eqGraph g g = some true := by
  unfold F_laws_eqGraph
  rw [cal_of (eqInt64SS_eq _ _ (by omega) (fun x hx => by have := h2 x hx; omega)), if_neg (by simp)]
end Go.Proofs.YtmaaloijdjnblaaGreatDoor

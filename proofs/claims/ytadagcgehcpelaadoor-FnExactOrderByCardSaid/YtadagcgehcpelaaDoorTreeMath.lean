/- Of a tree of bags: some vertex has all its neighbours in one bag. -/
import Derived.Test.YtadagcgehcpelaaDoorTFnExactDecompOk
namespace Go.Proofs.YtadagcgehcpelaaDoor
open Classical in
/-- the set of those below 16 for which p holds -/
noncomputable def msk (p : Nat → Prop) : Nat := mk (ints ((List.range 16).filter fun w => decide (p w)))
open Classical in
theorem msk_bit {p : Nat → Prop} {w : Nat} : (msk p).testBit w = true ↔ w < 16 ∧ p w := by
  unfold msk
  rw [mk_bit, decide_eq_true_iff]
  constructor
  · rintro ⟨x, hx, rfl⟩
    unfold ints at hx
    obtain ⟨u, hu, rfl⟩ := List.mem_map.1 hx
    rw [List.mem_filter, List.mem_range, decide_eq_true_iff] at hu
    simpa using hu
  · rintro ⟨h1, h2⟩
    refine ⟨(w : Int), ?_, by simp⟩
    unfold ints
    exact List.mem_map.2 ⟨w, List.mem_filter.2 ⟨List.mem_range.2 h1, decide_eq_true h2⟩, rfl⟩
theorem msk_lt (p : Nat → Prop) : msk p < 2 ^ 16 := by
  refine Nat.lt_pow_two_of_testBit _ fun j hj => ?_
  rcases h : (msk p).testBit j with _ | _
  · rfl
  · have := (msk_bit.1 h).1; omega
/-- what is closed within a linked set, and has one of it, has all of it -/
theorem conn_all {a : List Nat} {S : Nat} (hS : S ≠ 0) (h16 : S < 2 ^ 16) (hc : reach a S (low S) = S) (sym : ∀ u w, S.testBit u = true → S.testBit w = true → (a.getD u 0).testBit w = true → (a.getD w 0).testBit u = true)
    (T : Nat → Prop) (hT : ∀ u w, S.testBit u = true → S.testBit w = true → T u → (a.getD u 0).testBit w = true → T w) {x : Nat} (hx : S.testBit x = true) (hTx : T x) : ∀ y, S.testBit y = true → T y := by
  intro y hy
  have hlow := low_bit hS
  by_cases h : T (low S)
  · have hsub : SubB (reach a S (low S)) (msk fun w => S.testBit w = true ∧ T w) := by
      refine reach_least (msk_lt _) (msk_bit.2 ⟨bit_lt h16 hlow, hlow, h⟩) fun u hu w hw => ?_
      rw [Nat.testBit_and, Bool.and_eq_true] at hw
      obtain ⟨_, hu1, hu2⟩ := msk_bit.1 hu
      exact msk_bit.2 ⟨bit_lt h16 hw.2, hw.2, hT u w hu1 hw.2 hu2 hw.1⟩
    rw [hc] at hsub
    exact (msk_bit.1 (hsub y hy)).2.2
  · exfalso
    have hsub : SubB (reach a S (low S)) (msk fun w => S.testBit w = true ∧ ¬ T w) := by
      refine reach_least (msk_lt _) (msk_bit.2 ⟨bit_lt h16 hlow, hlow, h⟩) fun u hu w hw => ?_
      rw [Nat.testBit_and, Bool.and_eq_true] at hw
      obtain ⟨_, hu1, hu2⟩ := msk_bit.1 hu
      exact msk_bit.2 ⟨bit_lt h16 hw.2, hw.2, fun hTw => hu2 (hT w u hw.2 hu1 hTw (sym u w hu1 hw.2 hw.1))⟩
    rw [hc] at hsub
    exact (msk_bit.1 (hsub x hx)).2.2 hTx
theorem nodup_subG {α : Type} [DecidableEq α] : ∀ {l m : List α}, l.Nodup → (∀ x ∈ l, x ∈ m) → l.length ≤ m.length
  | [], _, _, _ => Nat.zero_le _
  | x :: l, m, hn, hs => by
    rw [List.nodup_cons] at hn
    have hx := hs x (List.mem_cons_self ..)
    have := nodup_subG (l := l) (m := m.erase x) hn.2 fun y hy => (List.mem_erase_of_ne (fun e => hn.1 (by rw [← e]; exact hy))).2 (hs y (List.mem_cons_of_mem _ hy))
    rw [List.length_erase_of_mem hx] at this
    have hp : 0 < m.length := List.length_pos_of_mem hx
    rw [List.length_cons]; omega
/-- a list of bags, each but the first beside its elder -/
structure Grown (N : Nat) (A : Nat → Nat → Prop) (L : List Nat) (par : Nat → Nat) : Prop where
  head : L.head? = some 0
  nd : L.Nodup
  lt : ∀ x ∈ L, x < N
  up : ∀ i (h : i < L.length), 0 < i → ∃ j, ∃ hj : j < i, L[j]'(by omega) = par L[i] ∧ A L[i] (par L[i])
theorem grown_all {N : Nat} {A : Nat → Nat → Prop} (h1 : 1 ≤ N) (hA : ∀ T : Nat → Prop, T 0 → (∃ y, y < N ∧ ¬ T y) → ∃ x y, x < N ∧ y < N ∧ T x ∧ ¬ T y ∧ A y x) :
    ∀ k, k < N → ∃ L par, Grown N A L par ∧ L.length = k + 1
  | 0, _ => ⟨[0], fun _ => 0, ⟨rfl, by simp, by simp; omega, fun i h h0 => by simp at h; omega⟩, rfl⟩
  | k + 1, hk => by
    obtain ⟨L, par, hG, hl⟩ := grown_all h1 hA k (by omega)
    have h0 : (0 : Nat) ∈ L := List.mem_of_head? hG.head
    obtain ⟨x, y, hx, hy, hxL, hyL, hxy⟩ := hA (fun z => z ∈ L) h0 (Classical.byContradiction fun hn => by
      have := nodup_subG (l := List.range N) (m := L) List.nodup_range fun z hz => Classical.byContradiction fun hz2 => hn ⟨z, List.mem_range.1 hz, hz2⟩
      rw [List.length_range] at this; omega)
    refine ⟨L ++ [y], fun z => if z = y then x else par z, ⟨?_, ?_, ?_, ?_⟩, by simp; omega⟩
    · rw [List.head?_append, hG.head]; rfl
    · rw [List.nodup_append]
      exact ⟨hG.nd, by simp, fun a ha b hb e => hyL (by rw [List.mem_singleton.1 hb] at e; exact e ▸ ha)⟩
    · intro z hz
      rcases List.mem_append.1 hz with h | h
      · exact hG.lt z h
      · rw [List.mem_singleton.1 h]; exact hy
    · intro i hi h0i
      rw [List.length_append, List.length_singleton] at hi
      by_cases e : i < L.length
      · obtain ⟨j, hj, e1, e2⟩ := hG.up i e h0i
        have hne : L[i] ≠ y := fun e' => hyL (e' ▸ List.getElem_mem e)
        refine ⟨j, hj, ?_, ?_⟩
        · rw [List.getElem_append_left (by omega), List.getElem_append_left e, if_neg hne]; exact e1
        · rw [List.getElem_append_left e, if_neg hne]; exact e2
      · obtain rfl : i = L.length := by omega
        obtain ⟨j, hj, ej⟩ := List.getElem_of_mem hxL
        refine ⟨j, hj, ?_, ?_⟩
        · rw [List.getElem_append_left hj, List.getElem_append_right (Nat.le_refl _)]; simp [ej]
        · rw [List.getElem_append_right (Nat.le_refl _)]; simpa using hxy
def spair (x y : Nat) : List Int := if x < y then [(x : Int), (y : Int)] else [(y : Int), (x : Int)]
theorem spair_eq {x y u w : Nat} (h : spair x y = spair u w) : (x = u ∧ y = w) ∨ (x = w ∧ y = u) := by
  unfold spair at h
  split at h <;> split at h <;> simp at h <;> omega
/-- a tree of bags: each has a parent, and there are no other links -/
theorem tree_order {links : List (List Int)} {N : Nat} (h1 : 1 ≤ N) (hlk : LinksOk links N) (hm : links.length + 1 = N) (hA : ∀ T : Nat → Prop, T 0 → (∃ y, y < N ∧ ¬ T y) → ∃ x y, x < N ∧ y < N ∧ T x ∧ ¬ T y ∧ Linked links y x) :
    ∃ par ρ : Nat → Nat, (∀ b, b < N → b ≠ 0 → par b < N ∧ ρ (par b) < ρ b) ∧ ∀ b c, b < N → c < N → Linked links b c → (b ≠ 0 ∧ par b = c) ∨ (c ≠ 0 ∧ par c = b) := by
  obtain ⟨L, par, hG, hl⟩ := grown_all (A := fun y x => Linked links y x) h1 hA (N - 1) (by omega)
  have hmem : ∀ b, b < N → b ∈ L := fun b hb => Classical.byContradiction fun hn => by
    have := nodup_subG (l := b :: L) (m := List.range N) (List.nodup_cons.2 ⟨hn, hG.nd⟩) fun z hz => by
      rcases List.mem_cons.1 hz with rfl | hz
      · exact List.mem_range.2 hb
      · exact List.mem_range.2 (hG.lt z hz)
    rw [List.length_range, List.length_cons] at this; omega
  have h00 : ∀ (h : 0 < L.length), L[0] = 0 := fun h => by
    have := hG.head
    rw [List.head?_eq_getElem?, List.getElem?_eq_getElem h] at this
    exact Option.some.inj this
  have hup : ∀ b, b < N → b ≠ 0 → par b < N ∧ L.idxOf (par b) < L.idxOf b ∧ Linked links b (par b) := fun b hb hb0 => by
    have hi := List.idxOf_lt_length_iff.2 (hmem b hb)
    have hib := List.getElem_idxOf hi
    have hpos : 0 < L.idxOf b := by
      rcases Nat.eq_zero_or_pos (L.idxOf b) with e | e
      · exfalso
        simp only [e] at hib
        rw [h00 (by omega)] at hib; omega
      · exact e
    obtain ⟨j, hj, e1, e2⟩ := hG.up _ hi hpos
    rw [hib] at e1 e2
    refine ⟨?_, ?_, e2⟩
    · rw [← e1]; exact hG.lt _ (List.getElem_mem _)
    · have : L.idxOf (par b) ≤ j := by
        rw [← e1]
        rcases Nat.lt_or_ge j (L.idxOf L[j]) with g | g
        · have g2 := List.getElem_idxOf (List.idxOf_lt_length_iff.2 (List.getElem_mem (l := L) (n := j) (by omega)))
          have := (List.getElem_inj hG.nd).1 g2
          omega
        · exact g
      omega
  refine ⟨par, fun b => L.idxOf b, fun b hb hb0 => ⟨(hup b hb hb0).1, (hup b hb hb0).2.1⟩, fun b c hb hc hbc => ?_⟩
  -- the links to the parents are all that there are
  let M := (L.filter fun b => decide (b ≠ 0)).map fun b => spair b (par b)
  have hMn : M.Nodup := by
    rw [List.nodup_iff_pairwise_ne, List.pairwise_map]
    refine (hG.nd.filter _).imp_of_mem fun {x y} hx hy hne e => ?_
    have hx' := List.mem_filter.1 hx
    have hy' := List.mem_filter.1 hy
    have ux := hup x (hG.lt x hx'.1) (of_decide_eq_true hx'.2)
    have uy := hup y (hG.lt y hy'.1) (of_decide_eq_true hy'.2)
    rcases spair_eq e with ⟨e1, _⟩ | ⟨e1, e2⟩
    · exact hne e1
    · rw [← e1] at uy; rw [e2] at ux; omega
  have hsp : ∀ x y, Linked links x y → spair x y ∈ links := fun x y h => by
    unfold spair
    rcases h with h | h
    · obtain ⟨u, w, e, huw, _⟩ := hlk.two h
      simp at e
      rw [if_pos (by omega)]; exact h
    · obtain ⟨u, w, e, huw, _⟩ := hlk.two h
      simp at e
      rw [if_neg (by omega)]; exact h
  have hMs : ∀ l ∈ M, l ∈ links := fun l hlM => by
    obtain ⟨x, hx, rfl⟩ := List.mem_map.1 hlM
    have hx' := List.mem_filter.1 hx
    exact hsp _ _ (hup x (hG.lt x hx'.1) (of_decide_eq_true hx'.2)).2.2
  have hMl : M.length = links.length := by
    show ((L.filter fun b => decide (b ≠ 0)).map fun b => spair b (par b)).length = _
    rw [List.length_map]
    have h0m := hmem 0 (by omega)
    have := (List.perm_cons_erase h0m).length_eq
    have he : (L.filter fun b => decide (b ≠ 0)) = L.erase 0 := by
      rw [hG.nd.erase_eq_filter]
      refine List.filter_congr fun x _ => ?_
      by_cases h : x = 0 <;> simp [h]
    rw [he]
    rw [List.length_cons] at this; omega
  have hall : ∀ l ∈ links, l ∈ M := fun l hl' => Classical.byContradiction fun hn => by
    have := nodup_subG (l := l :: M) (m := links) (List.nodup_cons.2 ⟨hn, hMn⟩) fun z hz => by
      rcases List.mem_cons.1 hz with rfl | hz
      · exact hl'
      · exact hMs z hz
    rw [List.length_cons] at this; omega
  obtain ⟨x, hx, e⟩ := List.mem_map.1 (hall _ (hsp b c hbc))
  have hx' := List.mem_filter.1 hx
  have hx0 : x ≠ 0 := of_decide_eq_true hx'.2
  rcases spair_eq e with ⟨e1, e2⟩ | ⟨e1, e2⟩
  · left; rw [← e1]; exact ⟨hx0, e2⟩
  · right; rw [← e1]; exact ⟨hx0, e2⟩
/-- below t in the tree -/
inductive Desc (par : Nat → Nat) (t : Nat) : Nat → Prop
  | refl : Desc par t t
  | step {b : Nat} : b ≠ 0 → Desc par t (par b) → Desc par t b
theorem Desc.le {par ρ : Nat → Nat} {N t : Nat} (h : ∀ b, b < N → b ≠ 0 → par b < N ∧ ρ (par b) < ρ b) {b : Nat} (hd : Desc par t b) : b < N → ρ t ≤ ρ b ∧ (b ≠ t → ρ t < ρ b) := by
  induction hd with
  | refl => exact fun _ => ⟨Nat.le_refl _, fun h => absurd rfl h⟩
  | step hb _ ih =>
    intro hN
    have h1 := h _ hN hb
    have h2 := ih h1.1
    exact ⟨by omega, fun _ => by omega⟩
theorem min_of {P : Nat → Prop} (ρ : Nat → Nat) {x : Nat} (hx : P x) : ∃ t, P t ∧ ∀ c, P c → ρ t ≤ ρ c := by
  have key : ∀ n x, ρ x = n → P x → ∃ t, P t ∧ ∀ c, P c → ρ t ≤ ρ c := by
    intro n
    induction n using Nat.strongRecOn with
    | _ n ih =>
      intro x hn hx
      by_cases h : ∃ c, P c ∧ ρ c < ρ x
      · obtain ⟨c, hc, hlt⟩ := h
        exact ih (ρ c) (by omega) c rfl hc
      · exact ⟨x, hx, fun c hc => Classical.byContradiction fun hn => h ⟨c, hc, by omega⟩⟩
  exact key _ x rfl hx
theorem max_of (f : Nat → Nat) : ∀ {l : List Nat}, l ≠ [] → ∃ v ∈ l, ∀ u ∈ l, f u ≤ f v
  | [], h => absurd rfl h
  | [x], _ => ⟨x, by simp, fun u hu => by rw [List.mem_singleton.1 hu]; exact Nat.le_refl _⟩
  | x :: y :: l, _ => by
    obtain ⟨v, hv, h⟩ := max_of f (l := y :: l) (by simp)
    by_cases e : f v ≤ f x
    · refine ⟨x, List.mem_cons_self .., fun u hu => ?_⟩
      rcases List.mem_cons.1 hu with rfl | hu
      · exact Nat.le_refl _
      · exact Nat.le_trans (h u hu) e
    · refine ⟨v, List.mem_cons_of_mem _ hv, fun u hu => ?_⟩
      rcases List.mem_cons.1 hu with rfl | hu
      · omega
      · exact h u hu
open Classical in
/-- of the vertices that are left one has a bag in which all are with which it shares one -/
theorem leaf_ex {bags links : List (List Int)} (h1 : 1 ≤ bags.length) (h16 : bags.length ≤ 16) (hlk : LinksOk links bags.length) (hm : links.length + 1 = bags.length) (ht : IsTree bags links) {left : List Nat} (hne : left ≠ []) (hw : ∀ v ∈ left, Whole bags links v) :
    ∃ v ∈ left, ∃ b ∈ bags, (v : Int) ∈ b ∧ ∀ u ∈ left, Together bags u v → (u : Int) ∈ b := by
  have hp0 := Nat.two_pow_pos bags.length
  have hp16 : 2 ^ bags.length ≤ 2 ^ 16 := Nat.pow_le_pow_right (by decide) h16
  have h2 : 2 ≤ 2 ^ bags.length := by
    calc 2 = 2 ^ 1 := rfl
      _ ≤ 2 ^ bags.length := Nat.pow_le_pow_right (by decide) h1
  have hsymm : ∀ u w, Linked links u w → Linked links w u := fun u w h => h.symm
  have hfull : (2 ^ bags.length - 1) ≠ 0 := by omega
  have hbit : ∀ b, (2 ^ bags.length - 1).testBit b = true ↔ b < bags.length := fun b => by rw [Nat.testBit_two_pow_sub_one]; simp
  obtain ⟨par, ρ, hpar, hlinks⟩ := tree_order h1 hlk hm (fun T h0 ⟨y, hy, hTy⟩ => Classical.byContradiction fun hn => by
    refine hTy (conn_all (a := lnets bags.length links) hfull (by omega) ht (fun u w hu hw' h => ?_) T (fun u w hu hw' hTu h => ?_) ((hbit 0).2 (by omega)) h0 y ((hbit y).2 hy))
    · exact (lnets_iff hlk ((hbit w).1 hw') u).2 (hsymm _ _ ((lnets_iff hlk ((hbit u).1 hu) w).1 h))
    · exact Classical.byContradiction fun hTw => hn ⟨u, w, (hbit u).1 hu, (hbit w).1 hw', hTu, hTw, hsymm _ _ ((lnets_iff hlk ((hbit u).1 hu) w).1 h)⟩)
  -- the top bag of each
  have htop : ∀ v, Whole bags links v → ∃ t, (wset bags v bags.length).testBit t = true ∧ ∀ c, (wset bags v bags.length).testBit c = true → ρ t ≤ ρ c := fun v hv =>
    min_of (P := fun c => (wset bags v bags.length).testBit c = true) ρ (low_bit hv.1)
  let top : Nat → Nat := fun v => if h : Whole bags links v then (htop v h).choose else 0
  have htop' : ∀ v, Whole bags links v → (wset bags v bags.length).testBit (top v) = true ∧ ∀ c, (wset bags v bags.length).testBit c = true → ρ (top v) ≤ ρ c := fun v hv => by
    show (wset bags v bags.length).testBit (if h : Whole bags links v then (htop v h).choose else 0) = true ∧ ∀ c, (wset bags v bags.length).testBit c = true → ρ (if h : Whole bags links v then (htop v h).choose else 0) ≤ ρ c
    rw [dif_pos hv]; exact (htop v hv).choose_spec
  obtain ⟨v, hv, hmax⟩ := max_of (fun v => ρ (top v)) hne
  obtain ⟨t1, t2⟩ := htop' v (hw v hv)
  have hWlt : ∀ u c, (wset bags u bags.length).testBit c = true → c < bags.length := fun u c h => (wset_bit.1 h).1
  have hclosed : ∀ u, Whole bags links u → (∀ x y, (wset bags u bags.length).testBit x = true → (wset bags u bags.length).testBit y = true → ((lnets bags.length links).getD x 0).testBit y = true → ((lnets bags.length links).getD y 0).testBit x = true) := fun u _ x y hx hy h =>
    (lnets_iff hlk (hWlt u y hy) x).2 (hsymm _ _ ((lnets_iff hlk (hWlt u x hx) y).1 h))
  have hlt16 : ∀ u, wset bags u bags.length < 2 ^ 16 := fun u => Nat.lt_of_lt_of_le (wset_lt _ _ _) hp16
  -- all its bags are below its top one
  have hdesc : ∀ c, (wset bags v bags.length).testBit c = true → Desc par (top v) c := by
    refine conn_all (hw v hv).1 (hlt16 v) (hw v hv).2 (hclosed v (hw v hv)) (fun c => Desc par (top v) c) (fun x y hx hy hT h => ?_) t1 Desc.refl
    rcases hlinks x y (hWlt v x hx) (hWlt v y hy) ((lnets_iff hlk (hWlt v x hx) y).1 h) with ⟨hx0, e⟩ | ⟨hy0, e⟩
    · cases hT with
      | refl =>
        exfalso
        have h3 := (hpar _ (hWlt v _ hx) hx0).2
        rw [e] at h3
        have := t2 y hy
        omega
      | step _ hd => rw [e] at hd; exact hd
    · exact Desc.step hy0 (by rw [e]; exact hT)
  have hbt := wset_bit.1 t1
  refine ⟨v, hv, bags.getD (top v) [], ?_, hbt.2, fun u hu huv => ?_⟩
  · rw [show bags.getD (top v) [] = bags[top v]'hbt.1 by simp [hbt.1]]; exact List.getElem_mem _
  · obtain ⟨b, hb, hub, hvb⟩ := huv
    obtain ⟨j, hj, rfl⟩ := List.getElem_of_mem hb
    have ej : bags.getD j [] = bags[j] := by simp [hj]
    have hju : (wset bags u bags.length).testBit j = true := wset_bit.2 ⟨hj, by rw [ej]; exact hub⟩
    have hjv : (wset bags v bags.length).testBit j = true := wset_bit.2 ⟨hj, by rw [ej]; exact hvb⟩
    have hwu := hw u hu
    obtain ⟨s1, s2⟩ := htop' u hwu
    rcases Classical.em ((wset bags u bags.length).testBit (top v) = true) with h | h
    · exact (wset_bit.1 h).2
    · exfalso
      have hall : ∀ c, (wset bags u bags.length).testBit c = true → Desc par (top v) c := by
        refine conn_all hwu.1 (hlt16 u) hwu.2 (hclosed u hwu) (fun c => Desc par (top v) c) (fun x y hx hy hT h' => ?_) hju (hdesc j hjv)
        rcases hlinks x y (hWlt u x hx) (hWlt u y hy) ((lnets_iff hlk (hWlt u x hx) y).1 h') with ⟨hx0, e⟩ | ⟨hy0, e⟩
        · cases hT with
          | refl => exact absurd hx h
          | step _ hd => rw [e] at hd; exact hd
        · exact Desc.step hy0 (by rw [e]; exact hT)
      have h3 := Desc.le hpar (hall _ s1) (hWlt u _ s1)
      have h4 := h3.2 fun e => h (e ▸ s1)
      have h5 : ρ (top u) ≤ ρ (top v) := hmax u hu
      omega
end Go.Proofs.YtadagcgehcpelaaDoor

/- Nice trees, node by node; how many vertices are dropped below a node. -/
import Derived.Test.YtnebbhginakaiaaTFnExactNiceOk
import Derived.Test.YtnebbhginakaiaaCod
namespace Go.Proofs.Ytnebbhginakaiaa
theorem more_split {a b : List Int} {n : Nat} (hn : n ≤ 16) (ha : Rises a n) (hb : Rises b n) {v : Int} (h : More (mk a) (mk b) v) : (0 ≤ v ∧ v < n) ∧ ∃ b1 b2, b = b1 ++ v :: b2 ∧ a = b1 ++ b2 := by
  obtain ⟨hv, h1, h2⟩ := (more_iff hn ha.lt hb.lt).1 h
  have e : ((v.toNat : Nat) : Int) = v := by omega
  have hvb : v ∈ b := by
    have := (hb.mem_mk v.toNat).1 (by rw [h2]; simp [Nat.testBit_or, Nat.testBit_two_pow])
    rwa [e] at this
  obtain ⟨b1, b2, hb12⟩ := List.append_of_mem hvb
  refine ⟨hv, b1, b2, hb12, ?_⟩
  have sb := hb.sorted hn
  rw [hb12] at sb
  have sb' : (b1 ++ b2).Pairwise (· < ·) := sb.sublist (by simp)
  refine sorted_extI (ha.sorted hn) sb' fun x => ?_
  have hva : v ∉ a := fun hm => by have := (ha.mem_mk v.toNat).2 (by rw [e]; exact hm); rw [h1] at this; cases this
  have hvn : v ∉ b1 ++ b2 := fun hm => by
    rw [List.pairwise_append] at sb
    obtain ⟨_, s2, s3⟩ := sb
    rcases List.mem_append.1 hm with g | g
    · have := s3 v g v (by simp); omega
    · have := (List.pairwise_cons.1 s2).1 v g; omega
  have key : ∀ x, x ∈ a ∨ x = v ↔ x ∈ b := fun x => by
    constructor
    · rintro (hx | rfl)
      · have hx0 := ha.mem hx
        have := (ha.mem_mk x.toNat).2 (by rw [show ((x.toNat : Nat) : Int) = x by omega]; exact hx)
        have := (hb.mem_mk x.toNat).1 (by rw [h2, Nat.testBit_or, this]; rfl)
        rwa [show ((x.toNat : Nat) : Int) = x by omega] at this
      · exact hvb
    · intro hx
      have hx0 := hb.mem hx
      have := (hb.mem_mk x.toNat).2 (by rw [show ((x.toNat : Nat) : Int) = x by omega]; exact hx)
      rw [h2, Nat.testBit_or, Nat.testBit_two_pow, Bool.or_eq_true, decide_eq_true_eq] at this
      rcases this with h | h
      · have := (ha.mem_mk x.toNat).1 h
        rw [show ((x.toNat : Nat) : Int) = x by omega] at this; exact .inl this
      · exact .inr (by omega)
  have hk := key x
  rw [hb12] at hk
  simp only [List.mem_append, List.mem_cons] at hk hvn ⊢
  constructor
  · intro hx
    have hne : x ≠ v := fun e => hva (e ▸ hx)
    rcases hk.1 (.inl hx) with h | h | h
    · exact .inl h
    · exact absurd h hne
    · exact .inr h
  · intro hx
    have hne : x ≠ v := fun e => hvn (e ▸ hx)
    rcases hk.2 (by rcases hx with h | h; exact .inl h; exact .inr (.inr h)) with h | h
    · exact h
    · exact absurd h hne
inductive NodeK (n : Nat) (K V : List Int) (B C : List (List Int)) (i : Nat) : Prop
  | leaf (hk : K.getD i 0 = 1) (hb : B.getD i [] = []) (hc : C.getD i [] = [])
  | add (hk : K.getD i 0 = 2) (k : Nat) (hki : k < i) (hc : C.getD i [] = [(k : Int)]) (hv : 0 ≤ V.getD i 0 ∧ V.getD i 0 < n) (b1 b2 : List Int) (hb : B.getD i [] = b1 ++ V.getD i 0 :: b2) (hbk : B.getD k [] = b1 ++ b2)
  | drop (hk : K.getD i 0 = 3) (k : Nat) (hki : k < i) (hc : C.getD i [] = [(k : Int)]) (hv : 0 ≤ V.getD i 0 ∧ V.getD i 0 < n) (b1 b2 : List Int) (hbk : B.getD k [] = b1 ++ V.getD i 0 :: b2) (hb : B.getD i [] = b1 ++ b2)
  | meet (hk : K.getD i 0 = 4) (k l : Nat) (hki : k < i) (hli : l < i) (hc : C.getD i [] = [(k : Int), (l : Int)]) (hbk : B.getD k [] = B.getD i []) (hbl : B.getD l [] = B.getD i [])
section
variable {g : List (List Int)} {K V : List Int} {B C : List (List Int)}
theorem NiceIs.node (h : NiceIs g K V B C) {i : Nat} (hi : i < K.length) : NodeK g.length K V B C i := by
  have h16 := h.1.n16
  obtain ⟨_, _, _, _, _, hN, _⟩ := h
  obtain ⟨hb, hkid, h1⟩ := hN i hi
  have kid : ∀ {k : Nat}, (k : Int) ∈ C.getD i [] → k < i := fun {k} hk => by have := hkid _ hk; omega
  rcases h1 with ⟨e1, e2, e3, e4⟩ | ⟨e1, e2, k, l, hc, e3, e4⟩ | ⟨e1, k, hc, hm⟩ | ⟨e1, k, hc, hm⟩
  · exact .leaf e1 ((mk_nil_iff hb.2).1 e3) e4
  · have hk := kid (k := k) (by rw [hc]; simp)
    have hl := kid (k := l) (by rw [hc]; simp)
    exact .meet e1 k l hk hl hc ((rises_ext (hN k (by omega)).1.2 hb.2 h16).1 e3) ((rises_ext (hN l (by omega)).1.2 hb.2 h16).1 e4)
  · have hk := kid (k := k) (by rw [hc]; simp)
    obtain ⟨hv, b1, b2, x1, x2⟩ := more_split h16 (hN k (by omega)).1.2 hb.2 hm
    exact .add e1 k hk hc hv b1 b2 x1 x2
  · have hk := kid (k := k) (by rw [hc]; simp)
    obtain ⟨hv, b1, b2, x1, x2⟩ := more_split h16 hb.2 (hN k (by omega)).1.2 hm
    exact .drop e1 k hk hc hv b1 b2 x1 x2
theorem NiceIs.bag (h : NiceIs g K V B C) {i : Nat} (hi : i < K.length) : (B.getD i []).length ≤ 8 ∧ Rises (B.getD i []) g.length := (h.2.2.2.2.2.1 i hi).1
theorem NiceIs.nodup (h : NiceIs g K V B C) {i : Nat} (hi : i < K.length) : (B.getD i []).Pairwise (fun u v => u.toNat ≠ v.toNat) := by
  have hb := (h.bag hi).2
  refine List.Pairwise.imp_of_mem (fun {u v} hu hv huv => ?_) (hb.sorted h.1.n16)
  have := hb.mem hu; have := hb.mem hv; omega
theorem NiceIs.last (h : NiceIs g K V B C) : B.getD (K.length - 1) [] = [] := by
  have h1 := h.2.1
  exact (mk_nil_iff (h.bag (i := K.length - 1) (by omega)).2).1 h.2.2.2.2.2.2.1
def kidAt (C : List (List Int)) (i j : Nat) : Nat := ((C.getD i []).getD j 0).toNat
noncomputable def dn (K : List Int) (C : List (List Int)) (i : Nat) : Nat :=
  (if K.getD i 0 = 3 then 1 else 0) + (if h : kidAt C i 0 < i ∧ 0 < (C.getD i []).length then dn K C (kidAt C i 0) else 0) + (if h : kidAt C i 1 < i ∧ 1 < (C.getD i []).length then dn K C (kidAt C i 1) else 0)
termination_by i
decreasing_by all_goals exact h.1
theorem dn_one {i k : Nat} (hki : k < i) (hc : C.getD i [] = [(k : Int)]) : dn K C i = (if K.getD i 0 = 3 then 1 else 0) + dn K C k := by
  have e : kidAt C i 0 = k := by unfold kidAt; rw [hc]; rfl
  rw [dn, dif_pos ⟨by rw [e]; exact hki, by rw [hc]; simp⟩, dif_neg (by rw [hc]; simp), e]; rfl
theorem dn_two {i k l : Nat} (hki : k < i) (hli : l < i) (hc : C.getD i [] = [(k : Int), (l : Int)]) : dn K C i = (if K.getD i 0 = 3 then 1 else 0) + dn K C k + dn K C l := by
  have e : kidAt C i 0 = k := by unfold kidAt; rw [hc]; rfl
  have e1 : kidAt C i 1 = l := by unfold kidAt; rw [hc]; rfl
  rw [dn, dif_pos ⟨by rw [e]; exact hki, by rw [hc]; simp⟩, dif_pos ⟨by rw [e1]; exact hli, by rw [hc]; simp⟩, e, e1]
theorem dn_none {i : Nat} (hc : C.getD i [] = []) : dn K C i = if K.getD i 0 = 3 then 1 else 0 := by
  rw [dn, dif_neg (by rw [hc]; simp), dif_neg (by rw [hc]; simp)]; rfl
theorem sumN_split {α : Type} {f g h : α → Nat} : ∀ {l : List α}, (∀ x ∈ l, f x = g x + h x) → (l.map f).sum = (l.map g).sum + (l.map h).sum
  | [], _ => rfl
  | x :: l, hx => by simp only [List.map_cons, List.sum_cons]; rw [hx x (by simp), sumN_split (l := l) fun y hy => hx y (by simp [hy])]; omega
theorem sumN_zero {α : Type} {f : α → Nat} : ∀ {l : List α}, (∀ x ∈ l, f x = 0) → (l.map f).sum = 0
  | [], _ => rfl
  | x :: l, h => by rw [List.map_cons, List.sum_cons, h x (by simp), sumN_zero (l := l) fun y hy => h y (by simp [hy])]
theorem sumN_one {w : Nat → Nat} {k : Nat} : ∀ (i : Nat), k < i → ((List.range i).map fun j => if j = k then w j else 0).sum = w k
  | 0, h => by omega
  | i + 1, h => by
    rw [List.range_succ, List.map_append, List.sum_append]
    simp only [List.map_cons, List.map_nil, List.sum_cons, List.sum_nil]
    by_cases e : k = i
    · subst e
      rw [if_pos rfl]
      have : ((List.range k).map fun j => if j = k then w j else 0).sum = 0 := by
        have : ∀ (l : List Nat), (∀ x ∈ l, x < k) → (l.map fun j => if j = k then w j else 0).sum = 0 := by
          intro l; induction l with
          | nil => intro _; rfl
          | cons x l ih => intro hx; simp only [List.map_cons, List.sum_cons]; rw [if_neg (by have := hx x (by simp); omega), ih fun y hy => hx y (by simp [hy])]
        exact this _ fun x hx => by simpa using hx
      omega
    · rw [sumN_one i (by omega), if_neg (fun h => e h.symm)]; rfl
noncomputable def roots (K : List Int) (C : List (List Int)) (i : Nat) : Nat := ((List.range i).map fun j : Nat => if (j : Int) ∈ kidsTo C i then 0 else dn K C j).sum
theorem NiceIs.kid_once (h : NiceIs g K V B C) {v : Nat} (hv : v + 1 < K.length) : (kidsTo C K.length).count (v : Int) = 1 := h.2.2.2.2.2.2.2.1 v hv
theorem count_kids_mono (C : List (List Int)) {i m : Nat} (hi : i ≤ m) (x : Int) : (kidsTo C i).count x ≤ (kidsTo C m).count x := by
  unfold kidsTo
  have : C.take m = C.take i ++ (C.take m).drop i := by
    conv => lhs; rw [← List.take_append_drop i (C.take m)]
    rw [List.take_take, Nat.min_eq_left hi]
  rw [this, List.flatten_append, List.count_append]; omega
theorem NiceIs.roots (h : NiceIs g K V B C) : ∀ i, i ≤ K.length → roots K C i = (dropsTo K V i).length
  | 0, _ => by simp [Go.Proofs.Ytnebbhginakaiaa.roots, dropsTo]
  | i + 1, hi => by
    have ih := h.roots i (by omega)
    have hC := h.2.2.2.2.1
    have hci : i < C.length := by omega
    have hks : kidsTo C (i + 1) = kidsTo C i ++ C.getD i [] := by rw [kidsTo_succ hci, List.getD_eq_getElem?_getD, List.getElem?_eq_getElem hci]; rfl
    have hnd := h.node (i := i) (by omega)
    have hkids : ∀ x ∈ C.getD i [], 0 ≤ x ∧ x < i := (h.2.2.2.2.2.1 i (by omega)).2.1
    have hself : ((i : Nat) : Int) ∉ kidsTo C (i + 1) := fun hm => by
      obtain ⟨j, hj, hx⟩ := mem_kidsTo hm
      have := (h.2.2.2.2.2.1 j (by omega)).2.1 _ hx; omega
    have honce : ∀ x ∈ C.getD i [], (kidsTo C (i + 1)).count x = 1 := fun x hx => by
      obtain ⟨h0, h1⟩ := hkids x hx
      have h2 := h.kid_once (v := x.toNat) (by omega)
      rw [show ((x.toNat : Nat) : Int) = x by omega] at h2
      have h3 := count_kids_mono C (i := i + 1) (m := K.length) hi x
      have h4 : 0 < (kidsTo C (i + 1)).count x := List.count_pos_iff.2 (by rw [hks]; exact List.mem_append_right _ hx)
      omega
    have hnot : ∀ x ∈ C.getD i [], x ∉ kidsTo C i := fun x hx hm => by
      have h1 := honce x hx
      rw [hks, List.count_append] at h1
      have h2 := List.count_pos_iff.2 hm
      have h3 := List.count_pos_iff.2 hx
      omega
    -- the sum over the elder ones
    have hold : ((List.range i).map fun j : Nat => if (j : Int) ∈ kidsTo C i then 0 else dn K C j).sum = ((List.range i).map fun j : Nat => if (j : Int) ∈ kidsTo C (i + 1) then 0 else dn K C j).sum + ((List.range i).map fun j : Nat => if (j : Int) ∈ C.getD i [] then dn K C j else 0).sum := by
      refine sumN_split fun j hj => ?_
      rw [hks]
      by_cases c1 : (j : Int) ∈ C.getD i []
      · rw [if_neg (hnot _ c1), if_pos (List.mem_append_right _ c1), if_pos c1]; omega
      · by_cases c2 : (j : Int) ∈ kidsTo C i
        · rw [if_pos c2, if_pos (List.mem_append_left _ c2), if_neg c1]
        · rw [if_neg c2, if_neg (fun hm => (List.mem_append.1 hm).elim c2 c1), if_neg c1]; omega
    have hnew : Go.Proofs.Ytnebbhginakaiaa.roots K C (i + 1) = ((List.range i).map fun j : Nat => if (j : Int) ∈ kidsTo C (i + 1) then 0 else dn K C j).sum + dn K C i := by
      unfold Go.Proofs.Ytnebbhginakaiaa.roots
      rw [List.range_succ, List.map_append, List.sum_append]
      simp only [List.map_cons, List.map_nil, List.sum_cons, List.sum_nil]
      rw [if_neg hself]; rfl
    have hdn : dn K C i = (if K.getD i 0 = 3 then 1 else 0) + ((List.range i).map fun j : Nat => if (j : Int) ∈ C.getD i [] then dn K C j else 0).sum := by
      have one : ∀ k : Nat, k < i → C.getD i [] = [(k : Int)] → ((List.range i).map fun j : Nat => if (j : Int) ∈ C.getD i [] then dn K C j else 0).sum = dn K C k := fun k hki hc => by
        rw [hc, ← sumN_one (w := dn K C) i hki]
        refine congrArg List.sum (List.map_congr_left fun j _ => ?_)
        simp only [List.mem_singleton, Int.natCast_inj]
      cases hnd with
      | leaf hk hb hc => rw [dn_none hc, hc, sumN_zero fun j _ => by simp]; rfl
      | add hk k hki hc hv b1 b2 hb hbk => rw [dn_one hki hc, one k hki hc]
      | drop hk k hki hc hv b1 b2 hb hbk => rw [dn_one hki hc, one k hki hc]
      | meet hk k l hki hli hc hbk hbl =>
        have hkl : k ≠ l := fun e => by
          have h1 := honce (k : Int) (by rw [hc]; simp)
          rw [hks, hc, List.count_append, ← e] at h1
          simp at h1
        rw [dn_two hki hli hc, hc, ← sumN_one (w := dn K C) i hki, ← sumN_one (w := dn K C) (k := l) i hli, Nat.add_assoc]
        congr 1
        refine (sumN_split fun j _ => ?_).symm
        simp only [List.mem_cons, List.not_mem_nil, or_false, Int.natCast_inj]
        by_cases e1 : j = k
        · subst e1; rw [if_pos (.inl rfl), if_pos rfl, if_neg hkl]; rfl
        · by_cases e2 : j = l
          · subst e2; rw [if_pos (.inr rfl), if_neg e1, if_pos rfl]; omega
          · rw [if_neg (fun h => h.elim e1 e2), if_neg e1, if_neg e2]
    unfold Go.Proofs.Ytnebbhginakaiaa.roots at ih
    rw [hnew, dropsTo_succ]
    by_cases c : K.getD i 0 = 3
    · rw [if_pos c, List.length_append]; rw [if_pos c] at hdn; simp only [List.length_singleton]; omega
    · rw [if_neg c]; rw [if_neg c] at hdn; omega
theorem len_count {n : Nat} : ∀ {l : List Int}, (∀ x ∈ l, 0 ≤ x ∧ x < n) → (∀ v, v < n → l.count (v : Int) ≤ 1) → l.length ≤ n := by
  intro l h hc
  have hnd : l.Nodup := by
    rw [List.nodup_iff_count]
    intro x
    by_cases hx : x ∈ l
    · have := h x hx
      have := hc x.toNat (by omega)
      rwa [show ((x.toNat : Nat) : Int) = x by omega] at this
    · rw [List.count_eq_zero.2 hx]; omega
  have hsub : l ⊆ (List.range n).map (fun j : Nat => (j : Int)) := fun x hx => by
    have := h x hx
    exact List.mem_map.2 ⟨x.toNat, List.mem_range.2 (by omega), by omega⟩
  have := hnd.length_le_of_subset hsub
  simpa using this
theorem NiceIs.drops_le (h : NiceIs g K V B C) : (dropsTo K V K.length).length ≤ g.length :=
  len_count (h.2.2.2.2.2.1.drops h.1.n16 (Nat.le_refl _)) fun v hv => Nat.le_of_eq (h.2.2.2.2.2.2.2.2.1 v hv)
theorem le_sumN {w : Nat → Nat} {i j : Nat} (h : j < i) : w j ≤ ((List.range i).map w).sum := by
  rw [← sumN_one (w := w) i h]
  have : ∀ l : List Nat, (l.map fun x => if x = j then w x else 0).sum ≤ (l.map w).sum := by
    intro l; induction l with
    | nil => exact Nat.le_refl _
    | cons x l ih => simp only [List.map_cons, List.sum_cons]; split <;> omega
  exact this _
theorem dropsTo_mono (K V : List Int) {i m : Nat} (h : i ≤ m) : (dropsTo K V i).length ≤ (dropsTo K V m).length := by
  induction m with
  | zero => rw [Nat.le_zero.1 h]; exact Nat.le_refl _
  | succ m ih =>
    by_cases e : i = m + 1
    · subst e; exact Nat.le_refl _
    · refine Nat.le_trans (ih (by omega)) ?_
      rw [dropsTo_succ]; split
      · rw [List.length_append]; omega
      · exact Nat.le_refl _
theorem NiceIs.dn_le (h : NiceIs g K V B C) {i : Nat} (hi : i < K.length) : dn K C i ≤ 16 := by
  have h1 := h.roots (i + 1) (by omega)
  have h2 := dropsTo_mono K V (i := i + 1) (m := K.length) (by omega)
  have h3 := h.drops_le
  have h4 := h.1.n16
  have hself : ((i : Nat) : Int) ∉ kidsTo C (i + 1) := fun hm => by
    obtain ⟨j, hj, hx⟩ := mem_kidsTo hm
    have := (h.2.2.2.2.2.1 j (by omega)).2.1 _ hx; omega
  have h5 := le_sumN (w := fun j : Nat => if (j : Int) ∈ kidsTo C (i + 1) then 0 else dn K C j) (show i < i + 1 by omega)
  simp only [if_neg hself] at h5
  unfold Go.Proofs.Ytnebbhginakaiaa.roots at h1
  omega
end
end Go.Proofs.Ytnebbhginakaiaa

/- Plain texts: TFnExactNiceOk, Cod, Tree, Gat, TreeS, TreeI, StabKey, ColKey, LawNice. -/
import Derived.Test.YtnebbhginakaiaaDoorP1
import Derived.Test.YtnebbhginakaiaaDoorRul
/- FnExactNiceOk: the plain law. -/
namespace Go.Proofs.YtnebbhginakaiaaDoor
def kidsTo (C : List (List Int)) (i : Nat) : List Int := (C.take i).flatten
theorem kidsTo_succ {C : List (List Int)} {i : Nat} (h : i < C.length) : kidsTo C (i + 1) = kidsTo C i ++ C[i] := by
  unfold kidsTo; rw [take_succ_of h, List.flatten_append]; simp
theorem mem_kidsTo {C : List (List Int)} {i : Nat} {x : Int} (h : x ∈ kidsTo C i) : ∃ j, j < i ∧ x ∈ C.getD j [] := by
  unfold kidsTo at h
  rw [List.mem_flatten] at h
  obtain ⟨c, hc, hx⟩ := h
  rw [List.mem_take_iff_getElem] at hc
  obtain ⟨j, hj, rfl⟩ := hc
  exact ⟨j, by omega, by rw [List.getD_eq_getElem?_getD, List.getElem?_eq_getElem (by omega)]; exact hx⟩
theorem inc_loop {O : Type} {step : List Int × Int → Option ((List Int × Int) ⊕ O)} (x l : List Int) (m : Nat) {o : O} (hl : ∀ y ∈ l, 0 ≤ y ∧ y < m) (hx : ∀ y ∈ x, 0 ≤ y ∧ y < m) (hn : l.length + x.length ≤ 1048576)
    (h : ∀ (k : Nat) (hk : k < x.length) (t : List Int), step (t, (k : Int)) = idx t x[k] (fun y => ck (y + 1) (fun _ => idx t x[k] (fun _ => ck ((k : Int) + 1) (fun _ => some (.inl (t.set (x[k] : Int).toNat (y + 1), (k : Int) + 1)))))))
    (he : step (incAll (l ++ x) (List.replicate m 0), (x.length : Int)) = some (.inr o)) : lp step (incAll l (List.replicate m 0), 0) = some o := by
  refine lp_upto (fun j => (incAll (l ++ x.take j) (List.replicate m 0), (j : Int))) x.length (by simp) (fun k hk => ?_) (by rw [List.take_length]; exact he)
  have hall : ∀ y ∈ l ++ x.take k, 0 ≤ y ∧ y < m := fun y hy => by
    rcases List.mem_append.1 hy with e | e
    · exact hl y e
    · exact hx y (List.mem_of_mem_take e)
  have hxk := hx _ (List.getElem_mem hk)
  have hc : (l ++ x.take k).count x[k] ≤ (l ++ x.take k).length := List.count_le_length
  rw [List.length_append, List.length_take] at hc
  rw [h k hk, inc_idx hall hxk, ck_of (inI (by omega) (by omega)), inc_idx hall hxk, ck_of (inI (by omega) (by omega)), inc_set hall hxk, take_succ_of hk, List.append_assoc]; rfl
def NodesOk (n m : Nat) (K V : List Int) (B C : List (List Int)) : Prop := ∀ i, i < m → BagAt n (B.getD i []) ∧ NodeAt K V B C i
theorem NodesOk.drop {n m : Nat} {K V : List Int} {B C : List (List Int)} (h : NodesOk n m K V B C) (hn : n ≤ 16) {i : Nat} (hi : i < m) (hk : K.getD i 0 = 3) : (0 ≤ V.getD i 0 ∧ V.getD i 0 < n) ∧ ∃ k, k < i ∧ (mk (B.getD k [])).testBit (V.getD i 0).toNat = true := by
  obtain ⟨h1, h2, h3⟩ := h i hi
  rcases h3 with h3 | h3 | h3 | ⟨_, k, hc, hm⟩
  · omega
  · omega
  · omega
  · have hki : k < i := by have := h2 k (by rw [hc]; simp); omega
    have := (less_iff hn (h1.2.lt) ((h k (by omega)).1.2.lt)).1 hm
    exact ⟨this.1, k, hki, this.2.1⟩
theorem mem_drops {K V : List Int} {i : Nat} {x : Int} : x ∈ dropsTo K V i ↔ ∃ j, j < i ∧ K.getD j 0 = 3 ∧ V.getD j 0 = x := by
  unfold dropsTo
  rw [List.mem_map]
  constructor
  · rintro ⟨j, hj, rfl⟩
    rw [List.mem_filter, List.mem_range, decide_eq_true_iff] at hj
    exact ⟨j, hj.1, hj.2, rfl⟩
  · rintro ⟨j, h1, h2, rfl⟩
    exact ⟨j, by rw [List.mem_filter, List.mem_range, decide_eq_true_iff]; exact ⟨h1, h2⟩, rfl⟩
theorem NodesOk.drops {n m : Nat} {K V : List Int} {B C : List (List Int)} (h : NodesOk n m K V B C) (hn : n ≤ 16) {i : Nat} (hi : i ≤ m) : ∀ x ∈ dropsTo K V i, 0 ≤ x ∧ x < n := by
  intro x hx
  obtain ⟨j, h1, h2, rfl⟩ := mem_drops.1 hx
  exact (h.drop hn (by omega) h2).1
theorem NodesOk.kids {n m : Nat} {K V : List Int} {B C : List (List Int)} (h : NodesOk n m K V B C) {i : Nat} (hi : i ≤ m) : (∀ x ∈ kidsTo C i, 0 ≤ x ∧ x < m) := by
  intro x hx
  obtain ⟨j, h1, h2⟩ := mem_kidsTo hx
  have := (h j (by omega)).2.1 x h2
  omega
theorem kidsTo_len {n m : Nat} {K V : List Int} {B C : List (List Int)} (h : NodesOk n m K V B C) (hC : C.length = m) : ∀ i, i ≤ m → (kidsTo C i).length ≤ 2 * i := by
  intro i
  induction i with
  | zero => intro _; simp [kidsTo]
  | succ i ih =>
    intro hi
    have h1 := (h i (by omega)).2.kids
    rw [List.getD_eq_getElem?_getD, List.getElem?_eq_getElem (by omega)] at h1
    rw [kidsTo_succ (by omega), List.length_append]
    have := ih (by omega)
    simp only [Option.getD_some] at h1
    omega
def WholeOk (g : List (List Int)) (m : Nat) (K V : List Int) (B C : List (List Int)) : Prop :=
  mk (B.getD (m - 1) []) = 0 ∧ (∀ v, v + 1 < m → (kidsTo C m).count (v : Int) = 1) ∧ (∀ v, v < g.length → (dropsTo K V m).count (v : Int) = 1) ∧ Covers (nb g) (B.map mk)
def NiceIs (g : List (List Int)) (K V : List Int) (B C : List (List Int)) : Prop :=
  GOk g ∧ (1 ≤ K.length ∧ K.length ≤ 200) ∧ V.length = K.length ∧ B.length = K.length ∧ C.length = K.length ∧ NodesOk g.length K.length K V B C ∧ WholeOk g K.length K V B C
section
variable {g : List (List Int)} {K V : List Int} {B C : List (List Int)} {m : Nat}
open Classical in
theorem l29Tree_eq (h : NodesOk g.length m K V B C) (hm : m ≤ 200) (h1 : 1 ≤ m) (hK : K.length = m) (hC : C.length = m) : F_spec_l29Tree K V B C = some (decide (∀ v, v + 1 < m → (kidsTo C m).count (v : Int) = 1)) := by
  unfold F_spec_l29Tree
  have hlen := kidsTo_len h hC
  have key : lp (fun s => F_spec_l29Tree_l1 C s.1 s.2) (List.replicate m (0 : Int), 0) = some (.inl (incAll (kidsTo C m) (List.replicate m 0))) := by
    refine lp_upto (fun i => (incAll (kidsTo C i) (List.replicate m 0), (i : Int))) m (by simp [kidsTo, incAll]) (fun i hi => ?_) ?_
    · simp only [F_spec_l29Tree_l1]
      have hiC : i < C.length := by omega
      have l1 := hlen i (by omega)
      have l2 := hlen (i + 1) (by omega)
      rw [kidsTo_succ hiC, List.length_append] at l2
      have hkk := h.kids (i := i + 1) (by omega)
      rw [kidsTo_succ hiC] at hkk
      have inner : lp (fun s => F_spec_l29Tree_l2 C (i : Int) s.1 s.2) (incAll (kidsTo C i) (List.replicate m 0), 0) = some (.inl (incAll (kidsTo C i ++ C[i]) (List.replicate m 0))) := by
        refine inc_loop C[i] (kidsTo C i) m (fun y hy => hkk y (List.mem_append_left _ hy)) (fun y hy => hkk y (List.mem_append_right _ hy)) (by omega) (fun k hk t => ?_) ?_
        · simp only [F_spec_l29Tree_l2]
          rw [idx_nat hiC, if_pos (by omega), idx_nat hiC, idx_nat hk]
        · simp only [F_spec_l29Tree_l2]
          rw [idx_nat hiC, if_neg (by omega)]
      rw [if_pos (by omega), bnd_l inner]
      unfold F_spec_l29Tree_k3
      rw [ck_of (inI (by omega) (by omega)), kidsTo_succ hiC]; rfl
    · simp only [F_spec_l29Tree_l1]
      rw [if_neg (by omega)]
  rw [hK, mkS_of (by omega) (by unfold lim; omega), Int.toNat_natCast, bnd_l key]
  unfold F_spec_l29Tree_k4
  have hin := h.kids (Nat.le_refl m)
  have hle : (incAll (kidsTo C m) (List.replicate m (0 : Int))).length = m := by rw [incAll_len, List.length_replicate]
  have k2 := lp_allC (step := fun s => F_spec_l29Tree_l5 (incAll (kidsTo C m) (List.replicate m 0)) s) (fun k => (k : Int)) (m - 1) (fun v => (kidsTo C m).count (v : Int) = 1) (∀ v, v + 1 < m → (kidsTo C m).count (v : Int) = 1) (oT := .inl ()) (oF := .inr false)
    ⟨fun h v hv => h v (by omega), fun h v hv => h v (by omega)⟩ ?_ ?_ ?_
  · rw [show ((0 : Nat) : Int) = 0 from rfl] at k2
    rw [k2, bnd_if]
    unfold F_spec_l29Tree_k6
    split
    · rename_i hq; rw [decide_eq_true hq]
    · rename_i hq; rw [decide_eq_false hq]
  · intro v hv _ hp
    simp only [F_spec_l29Tree_l5]
    rw [ck_of (inI (by omega) (by omega)), hle, if_pos (by omega), inc_idx hin (by omega), hp, if_neg (by decide), ck_of (inI (by omega) (by omega))]; rfl
  · intro v hv _ hp
    simp only [F_spec_l29Tree_l5]
    rw [ck_of (inI (by omega) (by omega)), hle, if_pos (by omega), inc_idx hin (by omega), if_pos (by omega)]
  · intro _
    simp only [F_spec_l29Tree_l5]
    rw [ck_of (inI (by omega) (by omega)), hle, if_neg (by omega)]
def nearOf (B : List (List Int)) (i v : Nat) : Nat := ((B.take i).map mk).foldl (fun (b m : Nat) => if m.testBit v = true then b ||| m else b) 0
theorem nearOf_succ {B : List (List Int)} {i v : Nat} (h : i < B.length) : nearOf B (i + 1) v = if (mk B[i]).testBit v = true then nearOf B i v ||| mk B[i] else nearOf B i v := by
  unfold nearOf; rw [take_succ_of h, List.map_append, List.foldl_append]; rfl
theorem nearOf_lt {B : List (List Int)} {i v k : Nat} (h : ∀ b ∈ B, mk b < 2 ^ k) : nearOf B i v < 2 ^ k := by
  unfold nearOf
  refine orFold_lt (fun x hx => ?_) 0 (Nat.two_pow_pos k)
  rw [List.mem_map] at hx
  obtain ⟨b, hb, rfl⟩ := hx
  exact h b (List.mem_of_mem_take hb)
def nears (B : List (List Int)) (n i : Nat) : List Int := (List.range n).map fun (v : Nat) => (nearOf B i v : Int)
theorem range_set {n w : Nat} {f f' : Nat → Int} {y : Int} (hw : w < n) (h1 : f' w = y) (h2 : ∀ v, v ≠ w → f' v = f v) : ((List.range n).map f).set w y = (List.range n).map f' := by
  apply List.ext_getElem
  · simp
  · intro v h3 h4
    simp only [List.length_map, List.length_range] at h4
    rw [List.getElem_set]
    by_cases e : w = v
    · subst e; rw [if_pos rfl]; simp [h1]
    · rw [if_neg e]; simp [h2 v (fun h => e h.symm)]
theorem idx_range {β : Type} {n w : Nat} {f : Nat → Int} {q : Int → Option β} (hw : w < n) : idx ((List.range n).map f) (w : Int) q = q (f w) := by
  rw [idx_nat (by simp; exact hw)]; simp
open Classical in
theorem l29Whole_eq (hg : GOk g) (h : NodesOk g.length m K V B C) (hm : m ≤ 200) (hK : K.length = m) (hV : V.length = m) (hB : B.length = m) (hC : C.length = m) :
    F_spec_l29Whole g K V B C = some (decide ((∀ v, v < g.length → (dropsTo K V m).count (v : Int) = 1) ∧ Covers (nb g) (B.map mk))) := by
  have h16 := hg.n16
  have h1 := hg.n1
  have hp := pow16 h16
  have hbag : ∀ i (hi : i < m), BagAt g.length (B[i]'(by omega)) := fun i hi => by
    have := (h i hi).1
    rwa [List.getD_eq_getElem?_getD, List.getElem?_eq_getElem (by omega)] at this
  have hbl : ∀ b ∈ B, mk b < 2 ^ g.length := fun b hb => by
    obtain ⟨i, hi, rfl⟩ := List.getElem_of_mem hb
    exact (hbag i (by omega)).2.lt
  have key : lp (fun s => F_spec_l29Whole_l1 K V B s.1 s.2.1 s.2.2) (List.replicate g.length (0 : Int), List.replicate g.length (0 : Int), 0) = some (.inl (incAll (dropsTo K V m) (List.replicate g.length 0), nears B g.length m)) := by
    refine lp_upto (fun i => (incAll (dropsTo K V i) (List.replicate g.length 0), nears B g.length i, (i : Int))) m ?_ (fun i hi => ?_) ?_
    · simp only [dropsTo, List.range_zero, List.filter_nil, List.map_nil, incAll, List.foldl_nil, nears, nearOf, List.take_zero]
      congr 2
      apply List.ext_getElem <;> simp
    · have hiB : i < B.length := by omega
      have hiK : i < K.length := by omega
      have hiV : i < V.length := by omega
      have hd := h.drops h16 (i := i) (by omega)
      have hdl := dropsTo_len K V i
      have hc : (dropsTo K V i).count V[i] ≤ (dropsTo K V i).length := List.count_le_length
      have eK : K.getD i 0 = K[i] := by simp [hiK]
      have eV : V.getD i 0 = V[i] := by simp [hiV]
      have hr := (hbag i hi).2
      have hbi := hr.len16 h16
      have hb := hbl _ (List.getElem_mem hiB)
      have inner : lp (fun s => F_spec_l29Whole_l3 B (i : Int) (mk B[i] : Int) s.1 s.2) (nears B g.length i, 0) = some (.inl (nears B g.length (i + 1))) := by
        refine lp_upto (fun j => ((List.range g.length).map (fun (v : Nat) => ((if (v : Int) ∈ B[i].take j then nearOf B i v ||| mk B[i] else nearOf B i v : Nat) : Int)), (j : Int))) B[i].length (by simp [nears]) (fun j hj => ?_) ?_
        · simp only [F_spec_l29Whole_l3]
          have hx := hr.mem (List.getElem_mem hj)
          obtain ⟨w, hw⟩ := Int.eq_ofNat_of_zero_le hx.1
          have hnw := nearOf_lt (i := i) (v := w) hbl
          rw [idx_nat hiB, if_pos (by omega), idx_nat hiB, idx_nat hj, idx_nat hiB, idx_nat hj, hw, idx_range (by omega), idx_range (by omega), ck_of (inI (by omega) (by omega)), Int.toNat_natCast]
          have hor := or_lt hnw hb
          have hval : i64or ((if (w : Int) ∈ B[i].take j then nearOf B i w ||| mk B[i] else nearOf B i w : Nat) : Int) (mk B[i] : Int) = ((nearOf B i w ||| mk B[i] : Nat) : Int) := by
            split
            · rw [i64or_nat (by omega) (by omega), Nat.or_assoc, Nat.or_self]
            · rw [i64or_nat (by omega) (by omega)]
          rw [hval, range_set (f' := fun (v : Nat) => ((if (v : Int) ∈ B[i].take (j + 1) then nearOf B i v ||| mk B[i] else nearOf B i v : Nat) : Int)) (by omega) ?_ ?_]
          · rfl
          · rw [if_pos (by rw [take_succ_of hj, hw]; simp)]
          · intro v hv
            have : (v : Int) ∈ B[i].take (j + 1) ↔ (v : Int) ∈ B[i].take j := by
              rw [take_succ_of hj, List.mem_append, List.mem_singleton, hw]
              exact ⟨fun h => h.elim id fun e => absurd (by omega) hv, .inl⟩
            simp only [this]
        · simp only [F_spec_l29Whole_l3]
          rw [idx_nat hiB, if_neg (by omega), List.take_length]
          unfold nears
          congr 3
          apply List.map_congr_left
          intro v _
          rw [nearOf_succ hiB]
          simp only [← hr.mem_mk v]
      have hk2 : F_spec_l29Whole_k2 B (nears B g.length i) (i : Int) (incAll (dropsTo K V (i + 1)) (List.replicate g.length 0)) = some (.inl (incAll (dropsTo K V (i + 1)) (List.replicate g.length 0), nears B g.length (i + 1), ((i + 1 : Nat) : Int))) := by
        unfold F_spec_l29Whole_k2
        rw [idx_nat hiB, cal_of (l25Mask_eq (fun v hv => by have := hr.mem hv; omega) (by have := hr.len16 h16; omega)), bnd_l inner]
        unfold F_spec_l29Whole_k4
        rw [ck_of (inI (by omega) (by omega))]; rfl
      simp only [F_spec_l29Whole_l1]
      rw [if_pos (by omega), idx_nat hiK]
      by_cases k3 : K[i] = 3
      · have hv := (h.drop h16 hi (by rw [eK]; exact k3)).1
        rw [eV] at hv
        rw [if_pos k3, idx_nat hiV, inc_idx hd hv, ck_of (inI (by omega) (by omega)), inc_idx hd hv, inc_set hd hv, bnd_l rfl]
        rw [dropsTo_succ, eK, if_pos k3, eV] at hk2 ⊢
        exact hk2
      · rw [if_neg k3, bnd_l rfl]
        rw [dropsTo_succ, eK, if_neg k3] at hk2 ⊢
        exact hk2
    · simp only [F_spec_l29Whole_l1]
      rw [if_neg (by omega)]
  unfold F_spec_l29Whole
  rw [mkS_of (by omega) (by unfold lim; omega), mkS_of (by omega) (by unfold lim; omega), Int.toNat_natCast, bnd_l key]
  unfold F_spec_l29Whole_k5
  rw [cal_of (l25Bits_eq hg)]
  have hd := h.drops h16 (Nat.le_refl m)
  have hle : (incAll (dropsTo K V m) (List.replicate g.length (0 : Int))).length = g.length := by rw [incAll_len, List.length_replicate]
  have hnl := nb_len g
  have hat : ∀ v (hv : v < g.length), (sdiff (mk g[v]) (nearOf B m v) = 0) ↔ ∀ j, (mk g[v]).testBit j = true → ∃ x ∈ B.map mk, x.testBit v = true ∧ x.testBit j = true := by
    intro v hv
    have e : nearOf B m v = (B.map mk).foldl (fun (b m : Nat) => if m.testBit v = true then b ||| m else b) 0 := by unfold nearOf; rw [← hB, List.take_length]
    rw [e]
    constructor
    · intro h2 j hj
      have h3 : (sdiff (mk g[v]) ((B.map mk).foldl (fun (b m : Nat) => if m.testBit v = true then b ||| m else b) 0)).testBit j = false := by rw [h2, Nat.zero_testBit]
      rw [sdiff_bit, hj, Bool.true_and, Bool.not_eq_false'] at h3
      rcases (orFold_bit (B.map mk) v 0 j).1 h3 with h4 | h4
      · rw [Nat.zero_testBit] at h4; cases h4
      · exact h4
    · intro h3
      refine bits_ext fun j => ?_
      rw [sdiff_bit, Nat.zero_testBit]
      cases e : (mk g[v]).testBit j with
      | false => rfl
      | true => rw [(orFold_bit (B.map mk) v 0 j).2 (.inr (h3 j e))]; rfl
  have k2 := lp_allC (step := fun s => F_spec_l29Whole_l6 (incAll (dropsTo K V m) (List.replicate g.length 0)) (nears B g.length m) (ints (nb g)) s) (fun k => (k : Int)) g.length (fun v => (dropsTo K V m).count (v : Int) = 1 ∧ ∀ hv : v < g.length, sdiff (mk g[v]) (nearOf B m v) = 0)
    ((∀ v, v < g.length → (dropsTo K V m).count (v : Int) = 1) ∧ Covers (nb g) (B.map mk)) (oT := .inl ()) (oF := .inr false) ?_ ?_ ?_ ?_
  · rw [show ((0 : Nat) : Int) = 0 from rfl] at k2
    rw [k2, bnd_if]
    unfold F_spec_l29Whole_k7
    split
    · rename_i hq; rw [decide_eq_true hq]
    · rename_i hq; rw [decide_eq_false hq]
  · constructor
    · rintro ⟨q1, q2⟩ v hv
      refine ⟨q1 v hv, fun hv => (hat v hv).2 ?_⟩
      have := (q2 v (by omega)).2
      rwa [nb_getD hv] at this
    · intro q
      refine ⟨fun v hv => (q v hv).1, fun v hv => ?_⟩
      rw [hnl] at hv
      refine ⟨?_, by rw [nb_getD hv]; exact (hat v hv).1 ((q v hv).2 hv)⟩
      have hmem : (v : Int) ∈ dropsTo K V m := List.count_pos_iff.1 (by have := (q v hv).1; omega)
      obtain ⟨i, hi, hk, hvv⟩ := mem_drops.1 hmem
      obtain ⟨_, k, hki, hb⟩ := h.drop h16 hi hk
      rw [hvv, Int.toNat_natCast] at hb
      refine ⟨_, ?_, hb⟩
      rw [List.getD_eq_getElem?_getD, List.getElem?_eq_getElem (by omega)]
      exact List.mem_map_of_mem (List.getElem_mem _)
  · intro v hv _ hp
    simp only [F_spec_l29Whole_l6]
    have hb := nb_lt hg (v := v) (by omega)
    have hn := nearOf_lt (i := m) (v := v) hbl
    have hgv := (hg.rows v hv).1.lt
    have hI : idx (ints (nb g)) (v : Int) = fun (q : Int → Option (Int ⊕ (Unit ⊕ Bool))) => q (mk g[v] : Int) := by
      funext q
      rw [idx_nat (by simp [ints]; omega)]
      simp [ints, nb]
    rw [hle, if_pos (by omega), inc_idx hd (by omega), hp.1, if_neg (by decide), hI]
    unfold nears
    dsimp only
    rw [idx_range hv, i64andn_nat (by omega) (by omega), hp.2 hv, if_neg (by decide), ck_of (inI (by omega) (by omega))]; rfl
  · intro v hv _ hp
    simp only [F_spec_l29Whole_l6]
    have hb := nb_lt hg (v := v) (by omega)
    have hn := nearOf_lt (i := m) (v := v) hbl
    have hgv := (hg.rows v hv).1.lt
    have hI : idx (ints (nb g)) (v : Int) = fun (q : Int → Option (Int ⊕ (Unit ⊕ Bool))) => q (mk g[v] : Int) := by
      funext q
      rw [idx_nat (by simp [ints]; omega)]
      simp [ints, nb]
    rw [hle, if_pos (by omega), inc_idx hd (by omega)]
    by_cases q1 : (dropsTo K V m).count (v : Int) = 1
    · have q2 : ¬ sdiff (mk g[v]) (nearOf B m v) = 0 := fun e => hp ⟨q1, fun _ => e⟩
      rw [q1, if_neg (by decide), hI]
      unfold nears
      dsimp only
      rw [idx_range hv, i64andn_nat (by omega) (by omega), if_pos (by omega)]
    · rw [if_pos (by omega)]
  · intro _
    simp only [F_spec_l29Whole_l6]
    rw [hle, if_neg (by omega)]
end
theorem nice_bool {p q : Prop} [Decidable p] [Decidable q] (h : p ↔ q) : some (decide p) = some (decide q) := by rw [decide_eq_decide.2 h]
open Classical in
theorem specNiceOk_eq (g : List (List Int)) (K V : List Int) (B C : List (List Int)) (hgl : g.length ≤ 1048576) (hl : ∀ x ∈ g, x.length ≤ 1048576) (hbl : ∀ x ∈ B, x.length ≤ 1048576) (hcl : ∀ x ∈ C, x.length ≤ 1048576) :
    F_spec_NiceOk g K V B C = some (decide (NiceIs g K V B C)) := by
  unfold F_spec_NiceOk
  rw [cal_of (specGraphOk_eq g hl)]
  by_cases hg : GOk g
  case neg => rw [if_pos (by simpa using hg)]; exact congrArg some (decide_eq_false (fun h => hg h.1)).symm
  rw [if_neg (by simpa using hg)]
  by_cases c1 : 1 ≤ K.length
  case neg => rw [if_pos (by omega)]; exact congrArg some (decide_eq_false (fun h => c1 h.2.1.1)).symm
  rw [if_neg (by omega)]
  by_cases c2 : K.length ≤ 200
  case neg => rw [if_pos (by omega)]; exact congrArg some (decide_eq_false (fun h => c2 h.2.1.2)).symm
  rw [if_neg (by omega)]
  by_cases c3 : V.length = K.length
  case neg => rw [if_pos (by omega)]; exact congrArg some (decide_eq_false (fun h => c3 h.2.2.1)).symm
  rw [if_neg (by omega)]
  by_cases c4 : B.length = K.length
  case neg => rw [if_pos (by omega)]; exact congrArg some (decide_eq_false (fun h => c4 h.2.2.2.1)).symm
  rw [if_neg (by omega)]
  by_cases c5 : C.length = K.length
  case neg => rw [if_pos (by omega)]; exact congrArg some (decide_eq_false (fun h => c5 h.2.2.2.2.1)).symm
  rw [if_neg (by omega)]
  have hN : NiceIs g K V B C ↔ NodesOk g.length K.length K V B C ∧ WholeOk g K.length K V B C := ⟨fun h => h.2.2.2.2.2, fun h => ⟨hg, ⟨c1, c2⟩, c3, c4, c5, h⟩⟩
  have key := lp_allC (step := fun s => F_spec_NiceOk_l1 g K V B C s) (fun k => (k : Int)) K.length (fun i => BagAt g.length (B.getD i []) ∧ NodeAt K V B C i) (NodesOk g.length K.length K V B C) (oT := .inl ()) (oF := .inr false) Iff.rfl ?_ ?_ ?_
  · rw [show ((0 : Nat) : Int) = 0 from rfl] at key
    rw [key, bnd_if]
    by_cases hn : NodesOk g.length K.length K V B C
    case neg => rw [if_neg hn]; exact congrArg some (decide_eq_false (fun h => hn (hN.1 h).1)).symm
    rw [if_pos hn]
    unfold F_spec_NiceOk_k2
    have e1 : (K.length : Int) - 1 = ((K.length - 1 : Nat) : Int) := by omega
    have hlast := (hn (K.length - 1) (by omega)).1.2
    have eB : B.getD (K.length - 1) [] = B[K.length - 1]'(by omega) := by rw [List.getD_eq_getElem?_getD, List.getElem?_eq_getElem (by omega)]; rfl
    rw [ck_of (inI (by omega) (by omega)), e1, idx_nat (by omega)]
    by_cases h0 : B[K.length - 1]'(by omega) = []
    · rw [if_pos (by rw [h0]; rfl), cal_of (l29Tree_eq hn c2 c1 rfl c5)]
      by_cases ht : ∀ v, v + 1 < K.length → (kidsTo C K.length).count (v : Int) = 1
      · rw [if_pos (by rw [decide_eq_true_iff]; exact ht), cal_of (l29Whole_eq hg hn c2 rfl c3 c4 c5)]
        refine nice_bool (Iff.trans ?_ hN.symm)
        exact ⟨fun h => ⟨hn, by rw [eB, h0]; rfl, ht, h⟩, fun h => h.2.2.2⟩
      · rw [if_neg (by rw [decide_eq_true_iff]; exact ht)]
        exact congrArg some (decide_eq_false (fun h => ht (hN.1 h).2.2.1)).symm
    · have h0' : (B[K.length - 1]'(by omega)).length ≠ 0 := fun h => h0 (List.length_eq_zero_iff.1 h)
      rw [if_neg (by omega)]
      refine congrArg some (decide_eq_false (fun h => h0 ?_)).symm
      have := (hN.1 h).2.1
      rw [eB] at this
      rw [eB] at hlast
      exact (mk_nil_iff hlast).1 this
  · intro i hi hb hp
    simp only [F_spec_NiceOk_l1]
    rw [if_pos (by omega), cal_of (l29Node_eq hg.n16 c2 hi rfl c3 c4 c5 hcl hbl (fun j hj => (hb j hj).1)), if_neg (by rw [decide_eq_true_iff]; exact fun h => h hp), ck_of (inI (by omega) (by omega))]; rfl
  · intro i hi hb hp
    simp only [F_spec_NiceOk_l1]
    rw [if_pos (by omega), cal_of (l29Node_eq hg.n16 c2 hi rfl c3 c4 c5 hcl hbl (fun j hj => (hb j hj).1)), if_pos (by rw [decide_eq_true_iff]; exact hp)]
  · intro _
    simp only [F_spec_NiceOk_l1]
    rw [if_neg (by omega)]
open Classical in
theorem implNiceOk_eq (g : List (List Int)) (K V : List Int) (B C : List (List Int)) (hgl : g.length ≤ 1048576) (hl : ∀ x ∈ g, x.length ≤ 1048576) (hbl : ∀ x ∈ B, x.length ≤ 1048576) (hcl : ∀ x ∈ C, x.length ≤ 1048576) :
    F_impl_NiceOk g K V B C = some (decide (NiceIs g K V B C)) := by
  unfold F_impl_NiceOk
  rw [cal_of (implGraphOk_eq g hgl hl)]
  by_cases hg : GOk g
  case neg => rw [if_pos (by simpa using hg)]; exact congrArg some (decide_eq_false (fun h => hg h.1)).symm
  rw [if_neg (by simpa using hg)]
  by_cases c1 : 1 ≤ K.length
  case neg => rw [if_pos (by omega)]; exact congrArg some (decide_eq_false (fun h => c1 h.2.1.1)).symm
  rw [if_neg (by omega)]
  by_cases c2 : K.length ≤ 200
  case neg => rw [if_pos (by omega)]; exact congrArg some (decide_eq_false (fun h => c2 h.2.1.2)).symm
  rw [if_neg (by omega)]
  by_cases c3 : V.length = K.length
  case neg => rw [if_pos (by omega)]; exact congrArg some (decide_eq_false (fun h => c3 h.2.2.1)).symm
  rw [if_neg (by omega)]
  by_cases c4 : B.length = K.length
  case neg => rw [if_pos (by omega)]; exact congrArg some (decide_eq_false (fun h => c4 h.2.2.2.1)).symm
  rw [if_neg (by omega)]
  by_cases c5 : C.length = K.length
  case neg => rw [if_pos (by omega)]; exact congrArg some (decide_eq_false (fun h => c5 h.2.2.2.2.1)).symm
  rw [if_neg (by omega)]
  have h16 := hg.n16
  have h1 := hg.n1
  have hp := pow16 h16
  have hN : NiceIs g K V B C ↔ NodesOk g.length K.length K V B C ∧ WholeOk g K.length K V B C := ⟨fun h => h.2.2.2.2.2, fun h => ⟨hg, ⟨c1, c2⟩, c3, c4, c5, h⟩⟩
  have key := lp_allC (step := fun s => F_impl_NiceOk_l1 g B s) (fun k => (k : Int)) B.length (fun i => BagAt g.length (B.getD i [])) (∀ i, i < B.length → BagAt g.length (B.getD i [])) (oT := .inl ()) (oF := .inr false) Iff.rfl ?_ ?_ ?_
  · rw [show ((0 : Nat) : Int) = 0 from rfl] at key
    rw [key, bnd_if]
    by_cases hb : ∀ i, i < B.length → BagAt g.length (B.getD i [])
    case neg => rw [if_neg hb]; exact congrArg some (decide_eq_false (fun h => hb fun i hi => ((hN.1 h).1 i (by omega)).1)).symm
    rw [if_pos hb]
    have hbm : ∀ b ∈ B, BagAt g.length b := fun b hbb => by
      obtain ⟨i, hi, rfl⟩ := List.getElem_of_mem hbb
      have := hb i hi
      rwa [List.getD_eq_getElem?_getD, List.getElem?_eq_getElem hi] at this
    unfold F_impl_NiceOk_k2
    rw [cal_of (bagMasks_eq (by omega) (fun b hbb v hv => by have := (hbm b hbb).2.mem hv; omega) hbl), mkS_of (by omega) (by unfold lim; omega), mkS_of (by omega) (by unfold lim; omega), Int.toNat_natCast, Int.toNat_natCast]
    have k3 := lp_allC (step := fun s => F_impl_NiceOk_l3 g K V B C (bvs (B.map mk)) s.1 s.2.1 s.2.2) (fun i => (incAll (kidsTo C i) (List.replicate K.length 0), incAll (dropsTo K V i) (List.replicate g.length 0), (i : Int))) K.length (fun i => NodeAt K V B C i) (NodesOk g.length K.length K V B C)
      (oT := .inl (incAll (kidsTo C K.length) (List.replicate K.length 0), incAll (dropsTo K V K.length) (List.replicate g.length 0))) (oF := .inr false) ⟨fun h i hi => (h i hi).2, fun h i hi => ⟨hb i (by omega), h i hi⟩⟩ ?_ ?_ ?_
    · rw [show (incAll (kidsTo C 0) (List.replicate K.length (0 : Int)), incAll (dropsTo K V 0) (List.replicate g.length (0 : Int)), ((0 : Nat) : Int)) = (List.replicate K.length (0 : Int), List.replicate g.length (0 : Int), 0) from rfl] at k3
      rw [k3]
      by_cases hn : NodesOk g.length K.length K V B C
      case neg => rw [if_neg hn, bnd_r rfl]; exact congrArg some (decide_eq_false (fun h => hn (hN.1 h).1)).symm
      rw [if_pos hn, bnd_l rfl]
      unfold F_impl_NiceOk_k6
      have hin := hn.kids (Nat.le_refl _)
      have hle : (incAll (kidsTo C K.length) (List.replicate K.length (0 : Int))).length = K.length := by rw [incAll_len, List.length_replicate]
      have hz : (kidsTo C K.length).count ((K.length - 1 : Nat) : Int) = 0 := by
        rw [List.count_eq_zero]
        intro hx
        obtain ⟨j, h2, h3⟩ := mem_kidsTo hx
        have := (hn j h2).2.1 _ h3
        omega
      have k4 := lp_allC (step := fun s => F_impl_NiceOk_l7 K (incAll (kidsTo C K.length) (List.replicate K.length 0)) s) (fun k => (k : Int)) K.length (fun v => v + 1 < K.length → (kidsTo C K.length).count (v : Int) = 1) (∀ v, v + 1 < K.length → (kidsTo C K.length).count (v : Int) = 1) (oT := .inl ()) (oF := .inr false)
        ⟨fun h v _ => h v, fun h v hv => h v (by omega) hv⟩ ?_ ?_ ?_
      · rw [show ((0 : Nat) : Int) = 0 from rfl] at k4
        rw [k4, bnd_if]
        by_cases ht : ∀ v, v + 1 < K.length → (kidsTo C K.length).count (v : Int) = 1
        case neg => rw [if_neg ht]; exact congrArg some (decide_eq_false (fun h => ht (hN.1 h).2.2.1)).symm
        rw [if_pos ht]
        unfold F_impl_NiceOk_k8
        have e1 : (K.length : Int) - 1 = ((K.length - 1 : Nat) : Int) := by omega
        have hlast := (hn (K.length - 1) (by omega)).1.2
        have eB : B.getD (K.length - 1) [] = B[K.length - 1]'(by omega) := by rw [List.getD_eq_getElem?_getD, List.getElem?_eq_getElem (by omega)]; rfl
        have hlt := hlast.lt
        rw [eB] at hlt
        rw [ck_of (inI (by omega) (by omega)), e1, idx_bvs (by rw [List.length_map]; omega), List.getElem_map]
        by_cases h0 : mk (B[K.length - 1]'(by omega)) = 0
        · have hdl : (incAll (dropsTo K V K.length) (List.replicate g.length (0 : Int))).length = g.length := by rw [incAll_len, List.length_replicate]
          have hd := hn.drops h16 (Nat.le_refl _)
          rw [if_pos (by rw [h0])]
          dsimp only
          rw [hasF_int _ _ (fun d => decide (d ≠ 1)) (by omega) (fun x _ => by unfold F_impl_NiceOk_1; rfl), cal_some_eq]
          have hany : (incAll (dropsTo K V K.length) (List.replicate g.length (0 : Int))).any (fun d => decide (d ≠ 1)) = true ↔ ¬ ∀ v, v < g.length → (dropsTo K V K.length).count (v : Int) = 1 := by
            rw [List.any_eq_true]
            constructor
            · rintro ⟨x, hx, h2⟩ h3
              obtain ⟨v, hv, rfl⟩ := List.getElem_of_mem hx
              rw [hdl] at hv
              have := inc_val hd hv
              rw [List.getD_eq_getElem?_getD, List.getElem?_eq_getElem (by omega), Option.getD_some, h3 v hv] at this
              rw [decide_eq_true_iff] at h2
              exact h2 this
            · intro h3
              refine Classical.byContradiction fun h4 => h3 fun v hv => Classical.byContradiction fun h5 => h4 ⟨_, List.getElem_mem (show v < _ by rw [hdl]; exact hv), ?_⟩
              have := inc_val hd hv
              rw [List.getD_eq_getElem?_getD, List.getElem?_eq_getElem (by omega), Option.getD_some] at this
              rw [decide_eq_true_iff, this]
              omega
          by_cases hw : ∀ v, v < g.length → (dropsTo K V K.length).count (v : Int) = 1
          · rw [if_pos (by rw [hany]; exact fun h => h hw), cal_of (netsOf_eq hg), cal_of (coversEdges_eq (by rw [nb_len]; exact h16) (fun v hv => nb_lt16 hg hv) (by rw [List.length_map]; omega) (fun x hx => by
              rw [List.mem_map] at hx
              obtain ⟨b, hbb, rfl⟩ := hx
              have := (hbm b hbb).2.lt
              omega))]
            refine nice_bool (Iff.trans ?_ hN.symm)
            exact ⟨fun h => ⟨hn, by rw [eB]; exact h0, ht, hw, h⟩, fun h => h.2.2.2.2⟩
          · rw [if_neg (by rw [hany]; exact fun h => h hw)]
            exact congrArg some (decide_eq_false (fun h => hw (hN.1 h).2.2.2.1)).symm
        · rw [if_neg (by rw [bv_inj (by omega) (by decide)]; exact h0)]
          refine congrArg some (decide_eq_false (fun h => h0 ?_)).symm
          have := (hN.1 h).2.1
          rwa [eB] at this
      · intro v hv _ hpv
        simp only [F_impl_NiceOk_l7]
        rw [hle, if_pos (by omega), inc_idx hin (by omega), ck_of (inI (by omega) (by omega))]
        by_cases hvm : v + 1 < K.length
        · rw [hpv hvm, if_neg (by rw [decide_eq_true (by rfl), decide_eq_true (by omega)]; decide), if_neg (by decide), ck_of (inI (by omega) (by omega))]; rfl
        · obtain rfl : v = K.length - 1 := by omega
          rw [hz, if_neg (by rw [decide_eq_false (by decide), decide_eq_false (by omega)]; decide), if_neg (by decide), ck_of (inI (by omega) (by omega))]; rfl
      · intro v hv _ hpv
        simp only [F_impl_NiceOk_l7]
        have hvm : v + 1 < K.length := Classical.byContradiction fun h => hpv fun h' => absurd h' h
        have hne : ¬ (kidsTo C K.length).count (v : Int) = 1 := fun h => hpv fun _ => h
        rw [hle, if_pos (by omega), inc_idx hin (by omega), ck_of (inI (by omega) (by omega)), if_pos (by rw [decide_eq_false (by omega), decide_eq_true (by omega)]; decide)]
      · intro _
        simp only [F_impl_NiceOk_l7]
        rw [hle, if_neg (by omega)]
    · intro i hi hbef hp
      have hnk : NodesOk g.length (i + 1) K V B C := fun j hj => ⟨hb j (by omega), by rcases Nat.lt_succ_iff_lt_or_eq.1 hj with e | e; exact hbef j e; rw [e]; exact hp⟩
      have hiC : i < C.length := by omega
      have hiK : i < K.length := hi
      have hiV : i < V.length := by omega
      have eK : K.getD i 0 = K[i] := by simp [hiK]
      have eV : V.getD i 0 = V[i] := by simp [hiV]
      have eC : C.getD i [] = C[i] := by simp [hiC]
      have l1 : (kidsTo C i).length ≤ 2 * i := by
        have key2 : ∀ j, j ≤ i → (kidsTo C j).length ≤ 2 * j := by
          intro j
          induction j with
          | zero => intro _; simp [kidsTo]
          | succ j ih =>
            intro hj
            have h5 := (hnk j (by omega)).2.kids
            rw [List.getD_eq_getElem?_getD, List.getElem?_eq_getElem (by omega)] at h5
            rw [kidsTo_succ (by omega), List.length_append]
            have := ih (by omega)
            simp only [Option.getD_some] at h5
            omega
        exact key2 i (Nat.le_refl _)
      have l2 := hp.kids
      rw [eC] at l2
      have hkk : ∀ x ∈ kidsTo C i ++ C[i], 0 ≤ x ∧ x < K.length := fun x hx => by
        rw [← kidsTo_succ hiC] at hx
        have := hnk.kids (Nat.le_refl _) x hx
        omega
      have hd := hnk.drops h16 (i := i) (by omega)
      have hdl := dropsTo_len K V i
      have hc : (dropsTo K V i).count V[i] ≤ (dropsTo K V i).length := List.count_le_length
      have inner : lp (fun s => F_impl_NiceOk_l4 C[i] s.1 s.2) (incAll (kidsTo C i) (List.replicate K.length 0), 0) = some (.inl (incAll (kidsTo C i ++ C[i]) (List.replicate K.length 0))) := by
        refine inc_loop C[i] (kidsTo C i) K.length (fun y hy => hkk y (List.mem_append_left _ hy)) (fun y hy => hkk y (List.mem_append_right _ hy)) (by omega) (fun k hk t => ?_) ?_
        · simp only [F_impl_NiceOk_l4]
          rw [if_pos (by omega), idx_nat hk]
        · simp only [F_impl_NiceOk_l4]
          rw [if_neg (by omega)]
      simp only [F_impl_NiceOk_l3]
      rw [if_pos (by omega), cal_of (goodNode_eq h16 h1 c2 hi rfl c3 c4 c5 hcl (fun b hbb => (hbm b hbb).2)), if_neg (by rw [decide_eq_true_iff]; exact fun h => h hp), idx_nat hiC, bnd_l inner]
      unfold F_impl_NiceOk_k5
      rw [idx_nat hiK]
      by_cases k3 : K[i] = 3
      · have hv := (hnk.drop h16 (Nat.lt_succ_self i) (by rw [eK]; exact k3)).1
        rw [eV] at hv
        rw [if_pos k3, idx_nat hiV, inc_idx hd hv, ck_of (inI (by omega) (by omega)), inc_idx hd hv, ck_of (inI (by omega) (by omega)), inc_set hd hv, kidsTo_succ hiC, dropsTo_succ, eK, if_pos k3, eV]; rfl
      · rw [if_neg k3, ck_of (inI (by omega) (by omega)), kidsTo_succ hiC, dropsTo_succ, eK, if_neg k3]; rfl
    · intro i hi hbef hp
      simp only [F_impl_NiceOk_l3]
      rw [if_pos (by omega), cal_of (goodNode_eq h16 h1 c2 hi rfl c3 c4 c5 hcl (fun b hbb => (hbm b hbb).2)), if_pos (by rw [decide_eq_true_iff]; exact hp)]
    · intro _
      simp only [F_impl_NiceOk_l3]
      rw [if_neg (by omega)]
  · intro i hi _ hp
    simp only [F_impl_NiceOk_l1]
    rw [List.getD_eq_getElem?_getD, List.getElem?_eq_getElem hi, Option.getD_some] at hp
    have := hbl _ (List.getElem_mem hi)
    rw [if_pos (by omega), idx_nat hi, if_neg (by have := hp.1; omega), cal_of (increasing_eq _ _ (by omega) (by omega) (by omega)), if_neg (by rw [decide_eq_true_iff]; exact fun h => h hp.2), ck_of (inI (by omega) (by omega))]; rfl
  · intro i hi _ hp
    simp only [F_impl_NiceOk_l1]
    rw [List.getD_eq_getElem?_getD, List.getElem?_eq_getElem hi, Option.getD_some] at hp
    have := hbl _ (List.getElem_mem hi)
    rw [if_pos (by omega), idx_nat hi]
    by_cases h8 : B[i].length ≤ 8
    · rw [if_neg (by omega), cal_of (increasing_eq _ _ (by omega) (by omega) (by omega)), if_pos (by rw [decide_eq_true_iff]; exact fun h => hp ⟨h8, h⟩)]
    · rw [if_pos (by omega)]
  · intro _
    simp only [F_impl_NiceOk_l1]
    rw [if_neg (by omega)]
end Go.Proofs.YtnebbhginakaiaaDoor

/- Rows of states as numbers: what stands at each vertex of a bag, the first vertex's digit the least. -/
namespace Go.Proofs.YtnebbhginakaiaaDoor
def cod (k : Nat) : List Int → (Nat → Nat) → Nat
  | [], _ => 0
  | v :: b, f => f v.toNat + k * cod k b f
theorem cod_cons (k : Nat) (v : Int) (b : List Int) (f : Nat → Nat) : cod k (v :: b) f = f v.toNat + k * cod k b f := rfl
def upd1 (f : Nat → Nat) (v c : Nat) : Nat → Nat := fun x => if x = v then c else f x
theorem cod_congr {k : Nat} : ∀ {b : List Int} {f f' : Nat → Nat}, (∀ v ∈ b, f v.toNat = f' v.toNat) → cod k b f = cod k b f'
  | [], _, _, _ => rfl
  | v :: b, f, f', h => by
    rw [cod_cons, cod_cons, h v (by simp), cod_congr (b := b) (fun u hu => h u (by simp [hu]))]
theorem cod_lt {k : Nat} : ∀ {b : List Int} {f : Nat → Nat}, (∀ v ∈ b, f v.toNat < k) → cod k b f < k ^ b.length
  | [], _, _ => by simp [cod]
  | v :: b, f, h => by
    have h1 := h v (by simp)
    have h2 := cod_lt (b := b) (fun u hu => h u (by simp [hu]))
    rw [cod_cons, List.length_cons, Nat.pow_succ, Nat.mul_comm (k ^ b.length) k]
    calc f v.toNat + k * cod k b f < k + k * cod k b f := by omega
      _ = k * (cod k b f + 1) := by rw [Nat.mul_add]; omega
      _ ≤ k * k ^ b.length := Nat.mul_le_mul_left _ h2
theorem cod_append {k : Nat} : ∀ (b1 b2 : List Int) (f : Nat → Nat), cod k (b1 ++ b2) f = cod k b1 f + k ^ b1.length * cod k b2 f
  | [], b2, f => by simp [cod]
  | v :: b1, b2, f => by
    rw [List.cons_append]
    rw [cod_cons, cod_cons, cod_append b1 b2 f, List.length_cons, Nat.pow_succ, Nat.mul_add, Nat.mul_comm (k ^ b1.length) k, Nat.mul_assoc]; omega
theorem cod_low {k p c1 x : Nat} (hp : 0 < p) (h : c1 < p) : (c1 + p * x) / p = x ∧ (c1 + p * x) % p = c1 := by
  rw [Nat.add_mul_div_left _ _ hp, Nat.div_eq_of_lt h, Nat.add_mul_mod_self_left, Nat.mod_eq_of_lt h]; exact ⟨Nat.zero_add _, rfl⟩
theorem cod_digit {k : Nat} {b1 b2 : List Int} {v : Int} {f : Nat → Nat} (h : ∀ u ∈ b1 ++ v :: b2, f u.toNat < k) : cod k (b1 ++ v :: b2) f / k ^ b1.length % k = f v.toNat := by
  have hv := h v (by simp)
  have hk : 0 < k := by omega
  have h1 := cod_lt (k := k) (b := b1) (f := f) (fun u hu => h u (by simp [hu]))
  rw [cod_append, (cod_low (k := k) (Nat.pow_pos hk) h1).1]
  rw [cod_cons, Nat.add_mul_mod_self_left, Nat.mod_eq_of_lt hv]
theorem cod_out {k : Nat} {b1 b2 : List Int} {v : Int} {f : Nat → Nat} (h : ∀ u ∈ b1 ++ v :: b2, f u.toNat < k) :
    cod k (b1 ++ v :: b2) f / (k ^ b1.length * k) * k ^ b1.length + cod k (b1 ++ v :: b2) f % k ^ b1.length = cod k (b1 ++ b2) f := by
  have hv := h v (by simp)
  have hk : 0 < k := by omega
  have h1 := cod_lt (k := k) (b := b1) (f := f) (fun u hu => h u (by simp [hu]))
  have h2 := cod_low (k := k) (x := cod k (v :: b2) f) (Nat.pow_pos hk) h1
  rw [cod_append, ← Nat.div_div_eq_div_mul, h2.1, h2.2, cod_append]
  rw [cod_cons, Nat.add_mul_div_left _ _ hk, Nat.div_eq_of_lt hv, Nat.zero_add, Nat.mul_comm, Nat.add_comm]
theorem cod_in {k : Nat} (hk : 0 < k) {b1 b2 : List Int} {v : Int} {f : Nat → Nat} (h : ∀ u ∈ b1 ++ b2, f u.toNat < k) (hv : ∀ u ∈ b1 ++ b2, u.toNat ≠ v.toNat) (c : Nat) :
    (cod k (b1 ++ b2) f / k ^ b1.length * k + c) * k ^ b1.length + cod k (b1 ++ b2) f % k ^ b1.length = cod k (b1 ++ v :: b2) (upd1 f v.toNat c) := by
  have h1 := cod_lt (k := k) (b := b1) (f := f) (fun u hu => h u (by simp [hu]))
  have h2 := cod_low (k := k) (x := cod k b2 f) (Nat.pow_pos hk) h1
  have e1 : cod k b1 (upd1 f v.toNat c) = cod k b1 f := cod_congr fun u hu => by unfold upd1; rw [if_neg (hv u (by simp [hu]))]
  have e2 : cod k b2 (upd1 f v.toNat c) = cod k b2 f := cod_congr fun u hu => by unfold upd1; rw [if_neg (hv u (by simp [hu]))]
  rw [cod_append, h2.1, h2.2, cod_append, e1]
  show _ = cod k b1 f + k ^ b1.length * (upd1 f v.toNat c v.toNat + k * cod k b2 (upd1 f v.toNat c))
  rw [e2, show upd1 f v.toNat c v.toNat = c by unfold upd1; rw [if_pos rfl], Nat.mul_comm (cod k b2 f) k, Nat.mul_comm _ (k ^ b1.length), Nat.add_comm c]; omega
theorem cod_surj {k : Nat} : ∀ (b : List Int), b.Pairwise (fun u v => u.toNat ≠ v.toNat) → ∀ s, s < k ^ b.length → ∃ f : Nat → Nat, (∀ v ∈ b, f v.toNat < k) ∧ (∀ x, (∀ v ∈ b, v.toNat ≠ x) → f x = 0) ∧ cod k b f = s
  | [], _, s, hs => ⟨fun _ => 0, by simp, fun _ _ => rfl, by simp at hs; subst hs; rfl⟩
  | v :: b, hp, s, hs => by
    obtain ⟨h1, h2⟩ := List.pairwise_cons.1 hp
    rw [List.length_cons, Nat.pow_succ] at hs
    have hk : 0 < k := by rcases Nat.eq_zero_or_pos k with e | e; subst e; omega; exact e
    obtain ⟨f, hf1, hf2, hf3⟩ := cod_surj b h2 (s / k) (Nat.div_lt_of_lt_mul (by rw [Nat.mul_comm]; exact hs))
    have hne : ∀ u ∈ b, u.toNat ≠ v.toNat := fun u hu e => h1 u hu e.symm
    refine ⟨upd1 f v.toNat (s % k), fun u hu => ?_, fun x hx => ?_, ?_⟩
    · unfold upd1; split
      · exact Nat.mod_lt _ hk
      · rename_i c
        rcases List.mem_cons.1 hu with e | hu
        · subst e; exact absurd rfl c
        · exact hf1 u hu
    · unfold upd1
      rw [if_neg (fun e => hx v (by simp) e.symm)]
      exact hf2 x fun u hu => hx u (by simp [hu])
    · show upd1 f v.toNat (s % k) v.toNat + k * cod k b (upd1 f v.toNat (s % k)) = s
      rw [cod_congr (f' := f) (fun u hu => by unfold upd1; rw [if_neg (hne u hu)]), hf3, show upd1 f v.toNat (s % k) v.toNat = s % k by unfold upd1; rw [if_pos rfl]]
      exact Nat.mod_add_div s k
/-! ## the reference's arithmetic -/
theorem pow_in {k n : Nat} (hk : k ≤ 4) (hn : n ≤ 9) : k ^ n ≤ 262144 := by
  rcases Nat.eq_zero_or_pos k with e | e
  · subst e; rcases Nat.eq_zero_or_pos n with e | e
    · subst e; decide
    · rw [Nat.zero_pow e]; omega
  · calc k ^ n ≤ 4 ^ n := Nat.pow_le_pow_left hk n
      _ ≤ 4 ^ 9 := Nat.pow_le_pow_right (by decide) hn
      _ ≤ 262144 := by decide
theorem l29Power_eq {k n : Nat} (hk : k ≤ 4) (hn : n ≤ 9) : F_spec_l29Power (k : Int) (n : Int) = some ((k ^ n : Nat) : Int) := by
  unfold F_spec_l29Power
  have key := lp_upto (step := fun s => F_spec_l29Power_l1 (k : Int) s.1 s.2) (fun j => (((n - j : Nat) : Int), ((k ^ j : Nat) : Int))) n (o := Sum.inl ((k ^ n : Nat) : Int)) (s := ((n : Int), 1)) (by simp) (fun j hj => by
    simp only [F_spec_l29Power_l1]
    have h1 := pow_in hk (show j + 1 ≤ 9 by omega)
    rw [Nat.pow_succ] at h1
    have h2 : (((k ^ j : Nat) : Int) * (k : Int)) = ((k ^ (j + 1) : Nat) : Int) := by rw [Nat.pow_succ]; push_cast; rfl
    rw [if_pos (by omega), h2, ck_of (inI (by omega) (by rw [Nat.pow_succ]; omega)), ck_of (inI (by omega) (by omega)), show ((n - j : Nat) : Int) - 1 = ((n - (j + 1) : Nat) : Int) by omega]) (by
    simp only [F_spec_l29Power_l1]
    rw [if_neg (by omega)])
  rw [key]; rfl
theorem l29At_eq {b1 b2 : List Int} {v : Int} (hv : ∀ u ∈ b1, u ≠ v) (hl : b1.length ≤ 8) : F_spec_l29At (b1 ++ v :: b2) v = some ((b1.length : Nat) : Int) := by
  unfold F_spec_l29At
  have key := lp_upto (step := fun s => F_spec_l29At_l1 (b1 ++ v :: b2) v s) (fun j => ((j : Nat) : Int)) b1.length (o := (Sum.inr ((b1.length : Nat) : Int) : Unit ⊕ Int)) (s := (0 : Int)) rfl (fun j hj => by
    simp only [F_spec_l29At_l1]
    rw [if_pos (by rw [List.length_append, List.length_cons]; omega), idx_of (x := b1[j]) (by omega) (by rw [Int.toNat_natCast, List.getElem?_append_left hj, List.getElem?_eq_getElem hj]), if_neg (hv _ (List.getElem_mem hj)), ck_of (inI (by omega) (by omega))]; rfl) (by
    simp only [F_spec_l29At_l1]
    rw [if_pos (by rw [List.length_append, List.length_cons]; omega), idx_of (x := v) (by omega) (by rw [Int.toNat_natCast, List.getElem?_append_right (Nat.le_refl _), Nat.sub_self]; rfl), if_pos rfl])
  rw [key]; rfl
theorem inI_natlt {n : Nat} (h : n ≤ 4611686018427387904) : InI (n : Int) := inI (by omega) (by omega)
theorem pow_pos_int {k n : Nat} (h : 0 < k) : (0 : Int) < ((k ^ n : Nat) : Int) := by have := Nat.pow_pos (n := n) h; omega
theorem l29Digit_eq {k s a : Nat} (hk : k ≤ 4) (h0 : 0 < k) (ha : a ≤ 8) : F_spec_l29Digit (s : Int) (k : Int) (a : Int) = some ((s / k ^ a % k : Nat) : Int) := by
  unfold F_spec_l29Digit
  rw [cal_of (l29Power_eq hk (by omega)), grd_of ⟨by omega, pow_pos_int h0⟩, grd_of ⟨Int.ediv_nonneg (by omega) (by omega), by omega⟩]
  congr 1
theorem l29Out_eq {k s a : Nat} (hk : k ≤ 4) (h0 : 0 < k) (ha : a ≤ 8) (hs : s ≤ 262144) : F_spec_l29Out (s : Int) (k : Int) (a : Int) = some ((s / (k ^ a * k) * k ^ a + s % k ^ a : Nat) : Int) := by
  unfold F_spec_l29Out
  have h1 := pow_in (k := k) (n := a + 1) hk (by omega)
  rw [Nat.pow_succ] at h1
  have hp := Nat.pow_pos (n := a) h0
  have e1 : (((k ^ a : Nat) : Int) * (k : Int)) = ((k ^ a * k : Nat) : Int) := by push_cast; rfl
  have h2 : s / (k ^ a * k) * k ^ a ≤ s := by
    calc s / (k ^ a * k) * k ^ a ≤ s / (k ^ a * k) * (k ^ a * k) := Nat.mul_le_mul_left _ (Nat.le_mul_of_pos_right _ h0)
      _ ≤ s := Nat.div_mul_le_self _ _
  have e2 : ((s : Int) / ((k ^ a * k : Nat) : Int) * ((k ^ a : Nat) : Int)) = ((s / (k ^ a * k) * k ^ a : Nat) : Int) := by push_cast; rfl
  have e3 : ((s : Int) % ((k ^ a : Nat) : Int)) = ((s % k ^ a : Nat) : Int) := by push_cast; rfl
  have h3 := Nat.mod_le s (k ^ a)
  have e5 : ((s / (k ^ a * k) * k ^ a : Nat) : Int) + ((s % k ^ a : Nat) : Int) = ((s / (k ^ a * k) * k ^ a + s % k ^ a : Nat) : Int) := by push_cast; rfl
  have h4 : 0 < k ^ a * k := Nat.mul_pos hp h0
  rw [cal_of (l29Power_eq hk (by omega)), e1, ck_of (inI (by omega) (by omega)), grd_of ⟨by omega, by omega⟩, e2, ck_of (inI_natlt (by omega)), grd_of ⟨by omega, by omega⟩, e3, e5, ck_of (inI_natlt (by omega))]
theorem l29In_eq {k s a c : Nat} (hk : k ≤ 4) (h0 : 0 < k) (ha : a ≤ 8) (hc : c ≤ 4) (hs : s ≤ 262144) : F_spec_l29In (s : Int) (k : Int) (a : Int) (c : Int) = some (((s / k ^ a * k + c) * k ^ a + s % k ^ a : Nat) : Int) := by
  unfold F_spec_l29In
  have h1 := pow_in (k := k) (n := a) hk (by omega)
  have hp := Nat.pow_pos (n := a) h0
  have e1 : ((s : Int) / ((k ^ a : Nat) : Int) * (k : Int)) = ((s / k ^ a * k : Nat) : Int) := by push_cast; rfl
  have h2 : s / k ^ a ≤ s := Nat.div_le_self _ _
  have h5 : s / k ^ a * k ≤ s * 4 := Nat.mul_le_mul h2 hk
  have h6 : (s / k ^ a * k + c) * k ^ a ≤ (s * 4 + 4) * 262144 := Nat.mul_le_mul (by omega) h1
  have e2 : ((s / k ^ a * k : Nat) : Int) + (c : Int) = ((s / k ^ a * k + c : Nat) : Int) := by push_cast; rfl
  have e4 : (((s / k ^ a * k + c : Nat) : Int) * ((k ^ a : Nat) : Int)) = (((s / k ^ a * k + c) * k ^ a : Nat) : Int) := by push_cast; rfl
  have e3 : ((s : Int) % ((k ^ a : Nat) : Int)) = ((s % k ^ a : Nat) : Int) := by push_cast; rfl
  have h3 := Nat.mod_le s (k ^ a)
  have e5 : (((s / k ^ a * k + c) * k ^ a : Nat) : Int) + ((s % k ^ a : Nat) : Int) = (((s / k ^ a * k + c) * k ^ a + s % k ^ a : Nat) : Int) := by push_cast; rfl
  rw [cal_of (l29Power_eq hk (by omega)), grd_of ⟨by omega, by omega⟩, e1, ck_of (inI_natlt (by omega)), e2, ck_of (inI_natlt (by omega)), e4, ck_of (inI_natlt (by omega)), grd_of ⟨by omega, by omega⟩, e3, e5, ck_of (inI_natlt (by omega))]
def nearC (g : List (List Int)) (b : List Int) (f : Nat → Nat) (v : Int) (c : Nat) : Prop := ∃ u ∈ b, u ∈ g.getD v.toNat [] ∧ f u.toNat = c
open Classical in
theorem l29Near_eq {g : List (List Int)} (hl : ∀ x ∈ g, x.length ≤ 1048576) {k : Nat} (hk : k ≤ 4) (h0 : 0 < k) {b : List Int} (hb : b.length ≤ 8) {f : Nat → Nat} (hf : ∀ u ∈ b, f u.toNat < k) {v : Int} (hv0 : 0 ≤ v) (hv : v < g.length) (c : Nat) :
    F_spec_l29Near g b (cod k b f : Int) (k : Int) v (c : Int) = some (decide (nearC g b f v c)) := by
  unfold F_spec_l29Near
  have hrow : g.getD v.toNat [] ∈ g := by rw [List.getD_eq_getElem?_getD, List.getElem?_eq_getElem (by omega)]; exact List.getElem_mem _
  have ed : ∀ u, F_spec_l1Edge g v u = some (decide (u ∈ g.getD v.toNat [])) := fun u => by
    unfold F_spec_l1Edge
    rw [idx_of (x := g.getD v.toNat []) hv0 (by rw [List.getD_eq_getElem?_getD, List.getElem?_eq_getElem (by omega)]; rfl), cal_of (l1Has_eq _ _ (by have := hl _ hrow; omega))]
  have dg : ∀ j (hj : j < b.length), F_spec_l29Digit (cod k b f : Int) (k : Int) (j : Int) = some ((f (b[j]).toNat : Nat) : Int) := fun j hj => by
    rw [l29Digit_eq hk h0 (by omega)]
    have e : b = b.take j ++ b[j] :: b.drop (j + 1) := by rw [List.getElem_cons_drop, List.take_append_drop]
    have h := cod_digit (k := k) (b1 := b.take j) (b2 := b.drop (j + 1)) (v := b[j]) (f := f) (by rw [← e]; exact hf)
    rw [← e, List.length_take, Nat.min_eq_left (by omega)] at h
    rw [h]
  rw [lp_find (l := b) (p := fun u => decide (u ∈ g.getD v.toNat [] ∧ f u.toNat = c)) (f := fun _ => true) (step := fun s => F_spec_l29Near_l1 g b (cod k b f : Int) (k : Int) v (c : Int) s) (fun j hj hp => by
      simp only [decide_eq_false_iff_not] at hp
      simp only [F_spec_l29Near_l1]
      rw [if_pos (by omega), idx_nat hj, cal_of (ed _)]
      by_cases h1 : b[j] ∈ g.getD v.toNat []
      · rw [if_pos (by simp only [decide_eq_true_eq]; exact h1), cal_of (dg j hj), if_neg (fun h => hp ⟨h1, by omega⟩), ck_of (inI (by omega) (by omega))]
      · rw [if_neg (by simp only [decide_eq_true_eq]; exact h1), ck_of (inI (by omega) (by omega))])
    (fun j hj hp => by
      simp only [decide_eq_true_eq] at hp
      simp only [F_spec_l29Near_l1]
      rw [if_pos (by omega), idx_nat hj, cal_of (ed _), if_pos (by simp only [decide_eq_true_eq]; exact hp.1), cal_of (dg j hj), if_pos (by rw [hp.2])])
    (by simp only [F_spec_l29Near_l1]; rw [if_neg (by omega)])]
  cases e : b.findIdx? (fun u => decide (u ∈ g.getD v.toNat [] ∧ f u.toNat = c)) with
  | none =>
    rw [List.findIdx?_eq_none_iff] at e
    have : ¬ nearC g b f v c := fun ⟨u, hu, h1, h2⟩ => by have := e u hu; simp only [decide_eq_false_iff_not] at this; exact this ⟨h1, h2⟩
    rw [decide_eq_false this]; rfl
  | some j =>
    rw [List.findIdx?_eq_some_iff_getElem] at e
    obtain ⟨hj, hp, _⟩ := e
    simp only [decide_eq_true_eq] at hp
    rw [decide_eq_true (show nearC g b f v c from ⟨b[j], List.getElem_mem hj, hp.1, hp.2⟩)]; rfl
end Go.Proofs.YtnebbhginakaiaaDoor

/- Nice trees, node by node; how many vertices are dropped below a node. -/
namespace Go.Proofs.YtnebbhginakaiaaDoor
theorem more_split {a b : List Int} {n : Nat} (hn : n ≤ 16) (ha : Rises a n) (hb : Rises b n) {v : Int} (h : More (mk a) (mk b) v) : (0 ≤ v ∧ v < n) ∧ ∃ b1 b2, b = b1 ++ v :: b2 ∧ a = b1 ++ b2 := by
  obtain ⟨hv, h1, h2⟩ := (more_iff hn ha.lt hb.lt).1 h
  have e : ((v.toNat : Nat) : Int) = v := by omega
  have hvb : v ∈ b := by
    have := (hb.mem_mk v.toNat).1 (by rw [h2]; simp [Nat.testBit_or, Nat.testBit_two_pow])
    rwa [e] at this
  obtain ⟨b1, b2, hb12⟩ := List.append_of_mem hvb
  refine ⟨hv, b1, b2, hb12, ?_⟩
  have sb := hb.sorted hn
  rw [hb12] at sb
  have sb' : (b1 ++ b2).Pairwise (· < ·) := sb.sublist (by simp)
  refine sorted_extI (ha.sorted hn) sb' fun x => ?_
  have hva : v ∉ a := fun hm => by have := (ha.mem_mk v.toNat).2 (by rw [e]; exact hm); rw [h1] at this; cases this
  have hvn : v ∉ b1 ++ b2 := fun hm => by
    rw [List.pairwise_append] at sb
    obtain ⟨_, s2, s3⟩ := sb
    rcases List.mem_append.1 hm with g | g
    · have := s3 v g v (by simp); omega
    · have := (List.pairwise_cons.1 s2).1 v g; omega
  have key : ∀ x, x ∈ a ∨ x = v ↔ x ∈ b := fun x => by
    constructor
    · rintro (hx | rfl)
      · have hx0 := ha.mem hx
        have := (ha.mem_mk x.toNat).2 (by rw [show ((x.toNat : Nat) : Int) = x by omega]; exact hx)
        have := (hb.mem_mk x.toNat).1 (by rw [h2, Nat.testBit_or, this]; rfl)
        rwa [show ((x.toNat : Nat) : Int) = x by omega] at this
      · exact hvb
    · intro hx
      have hx0 := hb.mem hx
      have := (hb.mem_mk x.toNat).2 (by rw [show ((x.toNat : Nat) : Int) = x by omega]; exact hx)
      rw [h2, Nat.testBit_or, Nat.testBit_two_pow, Bool.or_eq_true, decide_eq_true_eq] at this
      rcases this with h | h
      · have := (ha.mem_mk x.toNat).1 h
        rw [show ((x.toNat : Nat) : Int) = x by omega] at this; exact .inl this
      · exact .inr (by omega)
  have hk := key x
  rw [hb12] at hk
  simp only [List.mem_append, List.mem_cons] at hk hvn ⊢
  constructor
  · intro hx
    have hne : x ≠ v := fun e => hva (e ▸ hx)
    rcases hk.1 (.inl hx) with h | h | h
    · exact .inl h
    · exact absurd h hne
    · exact .inr h
  · intro hx
    have hne : x ≠ v := fun e => hvn (e ▸ hx)
    rcases hk.2 (by rcases hx with h | h; exact .inl h; exact .inr (.inr h)) with h | h
    · exact h
    · exact absurd h hne
inductive NodeK (n : Nat) (K V : List Int) (B C : List (List Int)) (i : Nat) : Prop
  | leaf (hk : K.getD i 0 = 1) (hb : B.getD i [] = []) (hc : C.getD i [] = [])
  | add (hk : K.getD i 0 = 2) (k : Nat) (hki : k < i) (hc : C.getD i [] = [(k : Int)]) (hv : 0 ≤ V.getD i 0 ∧ V.getD i 0 < n) (b1 b2 : List Int) (hb : B.getD i [] = b1 ++ V.getD i 0 :: b2) (hbk : B.getD k [] = b1 ++ b2)
  | drop (hk : K.getD i 0 = 3) (k : Nat) (hki : k < i) (hc : C.getD i [] = [(k : Int)]) (hv : 0 ≤ V.getD i 0 ∧ V.getD i 0 < n) (b1 b2 : List Int) (hbk : B.getD k [] = b1 ++ V.getD i 0 :: b2) (hb : B.getD i [] = b1 ++ b2)
  | meet (hk : K.getD i 0 = 4) (k l : Nat) (hki : k < i) (hli : l < i) (hc : C.getD i [] = [(k : Int), (l : Int)]) (hbk : B.getD k [] = B.getD i []) (hbl : B.getD l [] = B.getD i [])
section
variable {g : List (List Int)} {K V : List Int} {B C : List (List Int)}
theorem NiceIs.node (h : NiceIs g K V B C) {i : Nat} (hi : i < K.length) : NodeK g.length K V B C i := by
  have h16 := h.1.n16
  obtain ⟨_, _, _, _, _, hN, _⟩ := h
  obtain ⟨hb, hkid, h1⟩ := hN i hi
  have kid : ∀ {k : Nat}, (k : Int) ∈ C.getD i [] → k < i := fun {k} hk => by have := hkid _ hk; omega
  rcases h1 with ⟨e1, e2, e3, e4⟩ | ⟨e1, e2, k, l, hc, e3, e4⟩ | ⟨e1, k, hc, hm⟩ | ⟨e1, k, hc, hm⟩
  · exact .leaf e1 ((mk_nil_iff hb.2).1 e3) e4
  · have hk := kid (k := k) (by rw [hc]; simp)
    have hl := kid (k := l) (by rw [hc]; simp)
    exact .meet e1 k l hk hl hc ((rises_ext (hN k (by omega)).1.2 hb.2 h16).1 e3) ((rises_ext (hN l (by omega)).1.2 hb.2 h16).1 e4)
  · have hk := kid (k := k) (by rw [hc]; simp)
    obtain ⟨hv, b1, b2, x1, x2⟩ := more_split h16 (hN k (by omega)).1.2 hb.2 hm
    exact .add e1 k hk hc hv b1 b2 x1 x2
  · have hk := kid (k := k) (by rw [hc]; simp)
    obtain ⟨hv, b1, b2, x1, x2⟩ := more_split h16 hb.2 (hN k (by omega)).1.2 hm
    exact .drop e1 k hk hc hv b1 b2 x1 x2
theorem NiceIs.bag (h : NiceIs g K V B C) {i : Nat} (hi : i < K.length) : (B.getD i []).length ≤ 8 ∧ Rises (B.getD i []) g.length := (h.2.2.2.2.2.1 i hi).1
theorem NiceIs.nodup (h : NiceIs g K V B C) {i : Nat} (hi : i < K.length) : (B.getD i []).Pairwise (fun u v => u.toNat ≠ v.toNat) := by
  have hb := (h.bag hi).2
  refine List.Pairwise.imp_of_mem (fun {u v} hu hv huv => ?_) (hb.sorted h.1.n16)
  have := hb.mem hu; have := hb.mem hv; omega
theorem NiceIs.last (h : NiceIs g K V B C) : B.getD (K.length - 1) [] = [] := by
  have h1 := h.2.1
  exact (mk_nil_iff (h.bag (i := K.length - 1) (by omega)).2).1 h.2.2.2.2.2.2.1
def kidAt (C : List (List Int)) (i j : Nat) : Nat := ((C.getD i []).getD j 0).toNat
noncomputable def dn (K : List Int) (C : List (List Int)) (i : Nat) : Nat :=
  (if K.getD i 0 = 3 then 1 else 0) + (if h : kidAt C i 0 < i ∧ 0 < (C.getD i []).length then dn K C (kidAt C i 0) else 0) + (if h : kidAt C i 1 < i ∧ 1 < (C.getD i []).length then dn K C (kidAt C i 1) else 0)
termination_by i
decreasing_by all_goals exact h.1
theorem dn_one {i k : Nat} (hki : k < i) (hc : C.getD i [] = [(k : Int)]) : dn K C i = (if K.getD i 0 = 3 then 1 else 0) + dn K C k := by
  have e : kidAt C i 0 = k := by unfold kidAt; rw [hc]; rfl
  rw [dn, dif_pos ⟨by rw [e]; exact hki, by rw [hc]; simp⟩, dif_neg (by rw [hc]; simp), e]; rfl
theorem dn_two {i k l : Nat} (hki : k < i) (hli : l < i) (hc : C.getD i [] = [(k : Int), (l : Int)]) : dn K C i = (if K.getD i 0 = 3 then 1 else 0) + dn K C k + dn K C l := by
  have e : kidAt C i 0 = k := by unfold kidAt; rw [hc]; rfl
  have e1 : kidAt C i 1 = l := by unfold kidAt; rw [hc]; rfl
  rw [dn, dif_pos ⟨by rw [e]; exact hki, by rw [hc]; simp⟩, dif_pos ⟨by rw [e1]; exact hli, by rw [hc]; simp⟩, e, e1]
theorem dn_none {i : Nat} (hc : C.getD i [] = []) : dn K C i = if K.getD i 0 = 3 then 1 else 0 := by
  rw [dn, dif_neg (by rw [hc]; simp), dif_neg (by rw [hc]; simp)]; rfl
theorem sumN_split {α : Type} {f g h : α → Nat} : ∀ {l : List α}, (∀ x ∈ l, f x = g x + h x) → (l.map f).sum = (l.map g).sum + (l.map h).sum
  | [], _ => rfl
  | x :: l, hx => by simp only [List.map_cons, List.sum_cons]; rw [hx x (by simp), sumN_split (l := l) fun y hy => hx y (by simp [hy])]; omega
theorem sumN_zero {α : Type} {f : α → Nat} : ∀ {l : List α}, (∀ x ∈ l, f x = 0) → (l.map f).sum = 0
  | [], _ => rfl
  | x :: l, h => by rw [List.map_cons, List.sum_cons, h x (by simp), sumN_zero (l := l) fun y hy => h y (by simp [hy])]
theorem sumN_one {w : Nat → Nat} {k : Nat} : ∀ (i : Nat), k < i → ((List.range i).map fun j => if j = k then w j else 0).sum = w k
  | 0, h => by omega
  | i + 1, h => by
    rw [List.range_succ, List.map_append, List.sum_append]
    simp only [List.map_cons, List.map_nil, List.sum_cons, List.sum_nil]
    by_cases e : k = i
    · subst e
      rw [if_pos rfl]
      have : ((List.range k).map fun j => if j = k then w j else 0).sum = 0 := by
        have : ∀ (l : List Nat), (∀ x ∈ l, x < k) → (l.map fun j => if j = k then w j else 0).sum = 0 := by
          intro l; induction l with
          | nil => intro _; rfl
          | cons x l ih => intro hx; simp only [List.map_cons, List.sum_cons]; rw [if_neg (by have := hx x (by simp); omega), ih fun y hy => hx y (by simp [hy])]
        exact this _ fun x hx => by simpa using hx
      omega
    · rw [sumN_one i (by omega), if_neg (fun h => e h.symm)]; rfl
noncomputable def roots (K : List Int) (C : List (List Int)) (i : Nat) : Nat := ((List.range i).map fun j : Nat => if (j : Int) ∈ kidsTo C i then 0 else dn K C j).sum
theorem NiceIs.kid_once (h : NiceIs g K V B C) {v : Nat} (hv : v + 1 < K.length) : (kidsTo C K.length).count (v : Int) = 1 := h.2.2.2.2.2.2.2.1 v hv
theorem count_kids_mono (C : List (List Int)) {i m : Nat} (hi : i ≤ m) (x : Int) : (kidsTo C i).count x ≤ (kidsTo C m).count x := by
  unfold kidsTo
  have : C.take m = C.take i ++ (C.take m).drop i := by
    conv => lhs; rw [← List.take_append_drop i (C.take m)]
    rw [List.take_take, Nat.min_eq_left hi]
  rw [this, List.flatten_append, List.count_append]; omega
theorem NiceIs.roots (h : NiceIs g K V B C) : ∀ i, i ≤ K.length → roots K C i = (dropsTo K V i).length
  | 0, _ => by simp [Go.Proofs.YtnebbhginakaiaaDoor.roots, dropsTo]
  | i + 1, hi => by
    have ih := h.roots i (by omega)
    have hC := h.2.2.2.2.1
    have hci : i < C.length := by omega
    have hks : kidsTo C (i + 1) = kidsTo C i ++ C.getD i [] := by rw [kidsTo_succ hci, List.getD_eq_getElem?_getD, List.getElem?_eq_getElem hci]; rfl
    have hnd := h.node (i := i) (by omega)
    have hkids : ∀ x ∈ C.getD i [], 0 ≤ x ∧ x < i := (h.2.2.2.2.2.1 i (by omega)).2.1
    have hself : ((i : Nat) : Int) ∉ kidsTo C (i + 1) := fun hm => by
      obtain ⟨j, hj, hx⟩ := mem_kidsTo hm
      have := (h.2.2.2.2.2.1 j (by omega)).2.1 _ hx; omega
    have honce : ∀ x ∈ C.getD i [], (kidsTo C (i + 1)).count x = 1 := fun x hx => by
      obtain ⟨h0, h1⟩ := hkids x hx
      have h2 := h.kid_once (v := x.toNat) (by omega)
      rw [show ((x.toNat : Nat) : Int) = x by omega] at h2
      have h3 := count_kids_mono C (i := i + 1) (m := K.length) hi x
      have h4 : 0 < (kidsTo C (i + 1)).count x := List.count_pos_iff.2 (by rw [hks]; exact List.mem_append_right _ hx)
      omega
    have hnot : ∀ x ∈ C.getD i [], x ∉ kidsTo C i := fun x hx hm => by
      have h1 := honce x hx
      rw [hks, List.count_append] at h1
      have h2 := List.count_pos_iff.2 hm
      have h3 := List.count_pos_iff.2 hx
      omega
    -- the sum over the elder ones
    have hold : ((List.range i).map fun j : Nat => if (j : Int) ∈ kidsTo C i then 0 else dn K C j).sum = ((List.range i).map fun j : Nat => if (j : Int) ∈ kidsTo C (i + 1) then 0 else dn K C j).sum + ((List.range i).map fun j : Nat => if (j : Int) ∈ C.getD i [] then dn K C j else 0).sum := by
      refine sumN_split fun j hj => ?_
      rw [hks]
      by_cases c1 : (j : Int) ∈ C.getD i []
      · rw [if_neg (hnot _ c1), if_pos (List.mem_append_right _ c1), if_pos c1]; omega
      · by_cases c2 : (j : Int) ∈ kidsTo C i
        · rw [if_pos c2, if_pos (List.mem_append_left _ c2), if_neg c1]
        · rw [if_neg c2, if_neg (fun hm => (List.mem_append.1 hm).elim c2 c1), if_neg c1]; omega
    have hnew : Go.Proofs.YtnebbhginakaiaaDoor.roots K C (i + 1) = ((List.range i).map fun j : Nat => if (j : Int) ∈ kidsTo C (i + 1) then 0 else dn K C j).sum + dn K C i := by
      unfold Go.Proofs.YtnebbhginakaiaaDoor.roots
      rw [List.range_succ, List.map_append, List.sum_append]
      simp only [List.map_cons, List.map_nil, List.sum_cons, List.sum_nil]
      rw [if_neg hself]; rfl
    have hdn : dn K C i = (if K.getD i 0 = 3 then 1 else 0) + ((List.range i).map fun j : Nat => if (j : Int) ∈ C.getD i [] then dn K C j else 0).sum := by
      have one : ∀ k : Nat, k < i → C.getD i [] = [(k : Int)] → ((List.range i).map fun j : Nat => if (j : Int) ∈ C.getD i [] then dn K C j else 0).sum = dn K C k := fun k hki hc => by
        rw [hc, ← sumN_one (w := dn K C) i hki]
        refine congrArg List.sum (List.map_congr_left fun j _ => ?_)
        simp only [List.mem_singleton, Int.natCast_inj]
      cases hnd with
      | leaf hk hb hc => rw [dn_none hc, hc, sumN_zero fun j _ => by simp]; rfl
      | add hk k hki hc hv b1 b2 hb hbk => rw [dn_one hki hc, one k hki hc]
      | drop hk k hki hc hv b1 b2 hb hbk => rw [dn_one hki hc, one k hki hc]
      | meet hk k l hki hli hc hbk hbl =>
        have hkl : k ≠ l := fun e => by
          have h1 := honce (k : Int) (by rw [hc]; simp)
          rw [hks, hc, List.count_append, ← e] at h1
          simp at h1
        rw [dn_two hki hli hc, hc, ← sumN_one (w := dn K C) i hki, ← sumN_one (w := dn K C) (k := l) i hli, Nat.add_assoc]
        congr 1
        refine (sumN_split fun j _ => ?_).symm
        simp only [List.mem_cons, List.not_mem_nil, or_false, Int.natCast_inj]
        by_cases e1 : j = k
        · subst e1; rw [if_pos (.inl rfl), if_pos rfl, if_neg hkl]; rfl
        · by_cases e2 : j = l
          · subst e2; rw [if_pos (.inr rfl), if_neg e1, if_pos rfl]; omega
          · rw [if_neg (fun h => h.elim e1 e2), if_neg e1, if_neg e2]
    unfold Go.Proofs.YtnebbhginakaiaaDoor.roots at ih
    rw [hnew, dropsTo_succ]
    by_cases c : K.getD i 0 = 3
    · rw [if_pos c, List.length_append]; rw [if_pos c] at hdn; simp only [List.length_singleton]; omega
    · rw [if_neg c]; rw [if_neg c] at hdn; omega
theorem len_count {n : Nat} : ∀ {l : List Int}, (∀ x ∈ l, 0 ≤ x ∧ x < n) → (∀ v, v < n → l.count (v : Int) ≤ 1) → l.length ≤ n := by
  intro l h hc
  have hnd : l.Nodup := by
    rw [List.nodup_iff_count]
    intro x
    by_cases hx : x ∈ l
    · have := h x hx
      have := hc x.toNat (by omega)
      rwa [show ((x.toNat : Nat) : Int) = x by omega] at this
    · rw [List.count_eq_zero.2 hx]; omega
  have hsub : l ⊆ (List.range n).map (fun j : Nat => (j : Int)) := fun x hx => by
    have := h x hx
    exact List.mem_map.2 ⟨x.toNat, List.mem_range.2 (by omega), by omega⟩
  have := hnd.length_le_of_subset hsub
  simpa using this
theorem NiceIs.drops_le (h : NiceIs g K V B C) : (dropsTo K V K.length).length ≤ g.length :=
  len_count (h.2.2.2.2.2.1.drops h.1.n16 (Nat.le_refl _)) fun v hv => Nat.le_of_eq (h.2.2.2.2.2.2.2.2.1 v hv)
theorem le_sumN {w : Nat → Nat} {i j : Nat} (h : j < i) : w j ≤ ((List.range i).map w).sum := by
  rw [← sumN_one (w := w) i h]
  have : ∀ l : List Nat, (l.map fun x => if x = j then w x else 0).sum ≤ (l.map w).sum := by
    intro l; induction l with
    | nil => exact Nat.le_refl _
    | cons x l ih => simp only [List.map_cons, List.sum_cons]; split <;> omega
  exact this _
theorem dropsTo_mono (K V : List Int) {i m : Nat} (h : i ≤ m) : (dropsTo K V i).length ≤ (dropsTo K V m).length := by
  induction m with
  | zero => rw [Nat.le_zero.1 h]; exact Nat.le_refl _
  | succ m ih =>
    by_cases e : i = m + 1
    · subst e; exact Nat.le_refl _
    · refine Nat.le_trans (ih (by omega)) ?_
      rw [dropsTo_succ]; split
      · rw [List.length_append]; omega
      · exact Nat.le_refl _
theorem NiceIs.dn_le (h : NiceIs g K V B C) {i : Nat} (hi : i < K.length) : dn K C i ≤ 16 := by
  have h1 := h.roots (i + 1) (by omega)
  have h2 := dropsTo_mono K V (i := i + 1) (m := K.length) (by omega)
  have h3 := h.drops_le
  have h4 := h.1.n16
  have hself : ((i : Nat) : Int) ∉ kidsTo C (i + 1) := fun hm => by
    obtain ⟨j, hj, hx⟩ := mem_kidsTo hm
    have := (h.2.2.2.2.2.1 j (by omega)).2.1 _ hx; omega
  have h5 := le_sumN (w := fun j : Nat => if (j : Int) ∈ kidsTo C (i + 1) then 0 else dn K C j) (show i < i + 1 by omega)
  simp only [if_neg hself] at h5
  unfold Go.Proofs.YtnebbhginakaiaaDoor.roots at h1
  omega
end
end Go.Proofs.YtnebbhginakaiaaDoor

/- What is gathered, summed up: tables and lists of entries. -/
namespace Go.Proofs.YtnebbhginakaiaaDoor
def eqv (x y : Int) : Prop := wr x = wr y
theorem eqv.refl (x : Int) : eqv x x := rfl
theorem eqv.symm {x y : Int} (h : eqv x y) : eqv y x := Eq.symm h
theorem eqv.trans {x y z : Int} (h : eqv x y) (k : eqv y z) : eqv x z := Eq.trans h k
theorem eqv.wr (x : Int) : eqv (wr x) x := Int.bmod_bmod
theorem eqv.add {x y x' y' : Int} (h : eqv x y) (k : eqv x' y') : eqv (x + x') (y + y') := by
  unfold eqv at *
  rw [← wr_add, h, wr_add, ← wr_add', k, wr_add']
theorem eqv.mul {x y x' y' : Int} (h : eqv x y) (k : eqv x' y') : eqv (x * x') (y * y') := by
  unfold eqv at *
  rw [← wr_mul, h, wr_mul, Int.mul_comm y x', ← wr_mul, k, wr_mul, Int.mul_comm]
theorem eqv.eq {x y : Int} (h : eqv x y) (hx : InI x) (hy : InI y) : x = y := by rw [← wr_of hx, ← wr_of hy]; exact h
theorem eqv.sum {α : Type} {f g : α → Int} : ∀ {l : List α}, (∀ x ∈ l, eqv (f x) (g x)) → eqv (l.map f).sum (l.map g).sum
  | [], _ => eqv.refl _
  | x :: l, h => by
    rw [List.map_cons, List.map_cons, List.sum_cons, List.sum_cons]
    exact (h x (by simp)).add (eqv.sum fun y hy => h y (by simp [hy]))
theorem sumI_zero {α : Type} {f : α → Int} : ∀ {l : List α}, (∀ x ∈ l, f x = 0) → (l.map f).sum = 0
  | [], _ => rfl
  | x :: l, h => by rw [List.map_cons, List.sum_cons, h x (by simp), sumI_zero (l := l) fun y hy => h y (by simp [hy])]; rfl
theorem sumI_add {α : Type} (f g : α → Int) : ∀ (l : List α), (l.map fun x => f x + g x).sum = (l.map f).sum + (l.map g).sum
  | [] => rfl
  | x :: l => by simp only [List.map_cons, List.sum_cons]; rw [sumI_add f g l]; omega
theorem flatMap_same {α β : Type} {f g : α → List β} : ∀ {l : List α}, (∀ x ∈ l, f x = g x) → l.flatMap f = l.flatMap g
  | [], _ => rfl
  | x :: l, h => by rw [List.flatMap_cons, List.flatMap_cons, h x (by simp), flatMap_same fun y hy => h y (by simp [hy])]
def finT {κ : Type} (T : Tf κ) : Prop := ∃ l, IsL l T
theorem fin_no {κ : Type} : finT (noT : Tf κ) := ⟨[], IsL.empty⟩
section
variable {κ : Type} [DecidableEq κ]
def sumAt (l : List (κ × Int)) (a : κ) : Int := (l.map fun p => if p.1 = a then p.2 else 0).sum
theorem sumAt_flatMap {α : Type} (g : α → List (κ × Int)) (a : κ) : ∀ (l : List α), sumAt (l.flatMap g) a = (l.map fun p => sumAt (g p) a).sum
  | [] => rfl
  | x :: l => by
    rw [List.flatMap_cons, List.map_cons, List.sum_cons, ← sumAt_flatMap g a l]
    unfold sumAt
    rw [List.map_append, List.sum_append]
abbrev pSum : Int → Int → Int := fun x y => wr (x + y)
theorem gat_sum (a : κ) : ∀ (l : List (κ × Int)) (T : Tf κ), eqv ((gatL pSum T l a).getD 0) ((T a).getD 0 + sumAt l a)
  | [], T => by show eqv _ ((T a).getD 0 + 0); rw [Int.add_zero]; exact eqv.refl _
  | p :: l, T => by
    have h := gat_sum a l (gatT pSum T p)
    refine h.trans ?_
    have e : sumAt (p :: l) a = (if p.1 = a then p.2 else 0) + sumAt l a := rfl
    rw [e, ← Int.add_assoc]
    refine eqv.add ?_ (eqv.refl _)
    unfold gatT
    by_cases c : a = p.1
    · subst c
      rw [if_pos rfl, if_pos rfl]
      cases T p.1 with
      | none => simp only [Option.getD_none, Option.getD_some, Int.zero_add]; exact eqv.refl _
      | some o => exact eqv.wr _
    · rw [if_neg c, if_neg (fun h => c h.symm), Int.add_zero]; exact eqv.refl _
theorem gat_supp {pick : Int → Int → Int} {a : κ} : ∀ {l : List (κ × Int)} {T : Tf κ}, gatL pick T l a ≠ none → T a ≠ none ∨ ∃ n, (a, n) ∈ l
  | [], T, h => .inl h
  | p :: l, T, h => by
    rcases gat_supp (l := l) (T := gatT pick T p) h with h | ⟨n, h⟩
    · unfold gatT at h
      by_cases c : a = p.1
      · exact .inr ⟨p.2, by rw [c]; simp⟩
      · rw [if_neg c] at h; exact .inl h
    · exact .inr ⟨n, by simp [h]⟩
def okT (T : Tf κ) : Prop := ∀ a n, T a = some n → InI n
theorem gat_ok {pick : Int → Int → Int} (hp : ∀ x y, InI x → InI y → InI (pick x y)) : ∀ {l : List (κ × Int)} {T : Tf κ}, okT T → (∀ p ∈ l, InI p.2) → okT (gatL pick T l)
  | [], T, h, _ => h
  | p :: l, T, h, hl => by
    refine gat_ok hp (l := l) (T := gatT pick T p) (fun a n hn => ?_) (fun q hq => hl q (by simp [hq]))
    have hp2 := hl p (by simp)
    unfold gatT at hn
    by_cases c : a = p.1
    · rw [if_pos c] at hn
      have := Option.some.inj hn
      cases hT : T p.1 with
      | none => rw [hT] at this; rw [← this]; exact hp2
      | some o => rw [hT] at this; rw [← this]; exact hp _ _ (h _ _ hT) hp2
    · rw [if_neg c] at hn; exact h a n hn
theorem put_fin {T : Tf κ} (h : finT T) (a : κ) (n : Int) : finT (putT T a n) := by
  obtain ⟨l, hl⟩ := h
  cases hT : T a with
  | none => exact ⟨_, hl.push hT⟩
  | some o =>
    obtain ⟨j, hj⟩ := List.getElem?_of_mem ((hl.mem a o).1 hT)
    exact ⟨_, hl.set hj⟩
theorem gat_fin {pick : Int → Int → Int} : ∀ {l : List (κ × Int)} {T : Tf κ}, finT T → finT (gatL pick T l)
  | [], T, h => h
  | p :: l, T, h => gat_fin (l := l) (T := gatT pick T p) (put_fin h p.1 _)
theorem lsum1 {l : List (κ × Int)} {T : Tf κ} (h : IsL l T) (φ : κ × Int → Int) (c : κ) : (l.map fun p => if p.1 = c then φ p else 0).sum = match T c with | some n => φ (c, n) | none => 0 := by
  cases hT : T c with
  | none =>
    refine sumI_zero fun p hp => if_neg fun e => ?_
    have := (h.mem p.1 p.2).2 hp
    rw [e, hT] at this; cases this
  | some n =>
    have hm := (h.mem c n).1 hT
    obtain ⟨A, B, rfl⟩ := List.append_of_mem hm
    have hn := h.nd
    rw [List.map_append, List.map_cons, List.nodup_append] at hn
    obtain ⟨_, n2, n3⟩ := hn
    rw [List.nodup_cons] at n2
    rw [List.map_append, List.map_cons, List.sum_append, List.sum_cons, sumI_zero (l := A), sumI_zero (l := B), if_pos rfl]
    · simp
    · exact fun p hp => if_neg fun e => n2.1 (List.mem_map.2 ⟨p, hp, e⟩)
    · exact fun p hp => if_neg fun e => n3 _ (List.mem_map.2 ⟨p, hp, rfl⟩) c (by simp) e
theorem lsum {l : List (κ × Int)} {T : Tf κ} (h : IsL l T) : ∀ (cands : List κ) (φ : κ × Int → Int), cands.Nodup → (∀ p ∈ l, p.1 ∉ cands → φ p = 0) → (l.map φ).sum = (cands.map fun s => match T s with | some n => φ (s, n) | none => 0).sum
  | [], φ, _, h0 => sumI_zero fun p hp => h0 p hp (by simp)
  | c :: cs, φ, hn, h0 => by
    rw [List.nodup_cons] at hn
    have e : φ = fun p => (if p.1 = c then φ p else 0) + (if p.1 = c then 0 else φ p) := by
      funext p; split <;> simp
    have h1 := lsum h cs (fun p => if p.1 = c then 0 else φ p) hn.2 (fun p hp hc => by
      by_cases e : p.1 = c
      · exact if_pos e
      · rw [if_neg e]; exact h0 p hp (by simp [e, hc]))
    rw [List.map_cons, List.sum_cons, ← lsum1 h φ c]
    calc (l.map φ).sum = (l.map fun p => (if p.1 = c then φ p else 0) + (if p.1 = c then 0 else φ p)).sum := by rw [← e]
      _ = (l.map fun p => if p.1 = c then φ p else 0).sum + (l.map fun p => if p.1 = c then 0 else φ p).sum := sumI_add _ _ _
      _ = _ := by
        rw [h1]
        congr 1
        refine congrArg List.sum (List.map_congr_left fun s hs => ?_)
        have : s ≠ c := fun e => hn.1 (e ▸ hs)
        cases T s with
        | none => rfl
        | some n => exact if_neg this
theorem gatF_sum {R : Ru κ} (hR : R.pick = pSum) {T : Tf κ} (hT : finT T) {f : κ × Int → Option (List (κ × Int))} (g : κ × Int → List (κ × Int)) (hf : ∀ a n, T a = some n → f (a, n) = some (g (a, n))) :
    ∃ T', gatF R T f = some T' ∧ finT T' ∧ (∀ a, T' a ≠ none → ∃ s n m, T s = some n ∧ (a, m) ∈ g (s, n)) ∧ ((∀ s n, T s = some n → ∀ p ∈ g (s, n), InI p.2) → okT T') ∧
      ∀ a (cands : List κ), cands.Nodup → (∀ s n, T s = some n → s ∉ cands → sumAt (g (s, n)) a = 0) → eqv ((T' a).getD 0) (cands.map fun s => match T s with | some n => sumAt (g (s, n)) a | none => 0).sum := by
  obtain ⟨l0, hl0⟩ := hT
  have hl := lst_is hl0
  have e : (lst T).flatMap (fun p => (f p).getD []) = (lst T).flatMap g := flatMap_same fun p hp => by rw [hf p.1 p.2 ((hl.mem p.1 p.2).2 hp)]; rfl
  refine ⟨_, by unfold gatF; rw [if_pos (fun a n h => by rw [hf a n h]; rfl)], gat_fin fin_no, fun a ha => ?_, fun hi => ?_, fun a cands hn h0 => ?_⟩
  · rw [e] at ha
    rcases gat_supp ha with h | ⟨m, h⟩
    · exact absurd rfl h
    · obtain ⟨p, hp, hm⟩ := List.mem_flatMap.1 h
      exact ⟨p.1, p.2, m, (hl.mem p.1 p.2).2 hp, hm⟩
  · rw [e, hR]
    refine gat_ok (fun x y _ _ => wr_in _) (fun a n h => by cases h) fun p hp => ?_
    obtain ⟨q, hq, hm⟩ := List.mem_flatMap.1 hp
    exact hi q.1 q.2 ((hl.mem q.1 q.2).2 hq) p hm
  · rw [e, hR]
    refine (gat_sum a _ _).trans ?_
    show eqv (0 + _) _
    rw [Int.zero_add, sumAt_flatMap, lsum hl cands (fun p => sumAt (g p) a) hn (fun p hp hc => h0 p.1 p.2 ((hl.mem p.1 p.2).2 hp) hc)]
    exact eqv.refl _
end
end Go.Proofs.YtnebbhginakaiaaDoor

/- How many colourings there are below each node: what the reference's rows hold. -/
namespace Go.Proofs.YtnebbhginakaiaaDoor
section
variable {g : List (List Int)} {K V : List Int} {B C : List (List Int)}
open Classical in
noncomputable def cval (g : List (List Int)) (K V : List Int) (B C : List (List Int)) (k : Nat) (st : Bool) (i : Nat) (f : Nat → Nat) : Int :=
  if K.getD i 0 = 1 then 1
  else if K.getD i 0 = 2 then (if (st = true ∧ f (V.getD i 0).toNat = 0) ∨ ¬ nearC g (B.getD i []) f (V.getD i 0) (f (V.getD i 0).toNat) then (if h : kidAt C i 0 < i then cval g K V B C k st (kidAt C i 0) f else 0) else 0)
  else if K.getD i 0 = 3 then ((List.range k).map fun c => if h : kidAt C i 0 < i then cval g K V B C k st (kidAt C i 0) (upd1 f (V.getD i 0).toNat c) else 0).sum
  else if h : kidAt C i 0 < i ∧ kidAt C i 1 < i then cval g K V B C k st (kidAt C i 0) f * cval g K V B C k st (kidAt C i 1) f else 0
termination_by i
decreasing_by
  · exact h
  · exact h
  · exact h.1
  · exact h.2
theorem kidAt0 {i k : Nat} {r : List Int} (hc : C.getD i [] = (k : Int) :: r) : kidAt C i 0 = k := by unfold kidAt; rw [hc]; rfl
theorem kidAt1 {i k l : Nat} {r : List Int} (hc : C.getD i [] = (k : Int) :: (l : Int) :: r) : kidAt C i 1 = l := by unfold kidAt; rw [hc]; rfl
variable {k : Nat} {st : Bool} {i : Nat}
theorem cval_leaf (hk : K.getD i 0 = 1) (f : Nat → Nat) : cval g K V B C k st i f = 1 := by rw [cval, if_pos hk]
open Classical in
theorem cval_add (hk : K.getD i 0 = 2) {j : Nat} (hj : j < i) (hc : C.getD i [] = [(j : Int)]) (f : Nat → Nat) :
    cval g K V B C k st i f = if (st = true ∧ f (V.getD i 0).toNat = 0) ∨ ¬ nearC g (B.getD i []) f (V.getD i 0) (f (V.getD i 0).toNat) then cval g K V B C k st j f else 0 := by
  rw [cval, if_neg (by omega), if_pos hk, dif_pos (by rw [kidAt0 hc]; exact hj), kidAt0 hc]
theorem cval_drop (hk : K.getD i 0 = 3) {j : Nat} (hj : j < i) (hc : C.getD i [] = [(j : Int)]) (f : Nat → Nat) :
    cval g K V B C k st i f = ((List.range k).map fun c => cval g K V B C k st j (upd1 f (V.getD i 0).toNat c)).sum := by
  rw [cval, if_neg (by omega), if_neg (by omega), if_pos hk]
  refine congrArg List.sum (List.map_congr_left fun c _ => ?_)
  rw [dif_pos (by rw [kidAt0 hc]; exact hj), kidAt0 hc]
theorem cval_meet (hk : K.getD i 0 = 4) {j l : Nat} (hj : j < i) (hl : l < i) (hc : C.getD i [] = [(j : Int), (l : Int)]) (f : Nat → Nat) :
    cval g K V B C k st i f = cval g K V B C k st j f * cval g K V B C k st l f := by
  rw [cval, if_neg (by omega), if_neg (by omega), if_neg (by omega), dif_pos (by rw [kidAt0 hc, kidAt1 hc]; exact ⟨hj, hl⟩), kidAt0 hc, kidAt1 hc]
theorem nearC_congr {b : List Int} {f f' : Nat → Nat} (h : ∀ v ∈ b, f v.toNat = f' v.toNat) (v : Int) (c : Nat) : nearC g b f v c ↔ nearC g b f' v c := by
  unfold nearC
  exact ⟨fun ⟨u, h1, h2, h3⟩ => ⟨u, h1, h2, by rw [← h u h1]; exact h3⟩, fun ⟨u, h1, h2, h3⟩ => ⟨u, h1, h2, by rw [h u h1]; exact h3⟩⟩
theorem cval_congr (h : NiceIs g K V B C) : ∀ (i : Nat), i < K.length → ∀ {f f' : Nat → Nat}, (∀ v ∈ B.getD i [], f v.toNat = f' v.toNat) → cval g K V B C k st i f = cval g K V B C k st i f' := by
  intro i
  induction i using Nat.strongRecOn with
  | _ i ih =>
    intro hi f f' hf
    cases h.node hi with
    | leaf hk hb hc => rw [cval_leaf hk, cval_leaf hk]
    | add hk j hj hc hv b1 b2 hb hbk =>
      have e : f (V.getD i 0).toNat = f' (V.getD i 0).toNat := hf _ (by rw [hb]; simp)
      rw [cval_add hk hj hc, cval_add hk hj hc, ih j hj (by omega) (f' := f') (fun v hv' => hf v (by rw [hb]; rw [hbk] at hv'; simp at hv' ⊢; rcases hv' with h | h; exact .inl h; exact .inr (.inr h))), e]
      have hn := nearC_congr (g := g) hf (V.getD i 0) (f' (V.getD i 0).toNat)
      by_cases c : (st = true ∧ f' (V.getD i 0).toNat = 0) ∨ ¬ nearC g (B.getD i []) f (V.getD i 0) (f' (V.getD i 0).toNat)
      · rw [if_pos c, if_pos (c.imp id fun h1 h2 => h1 (hn.2 h2))]
      · rw [if_neg c, if_neg (fun h1 => c (h1.imp id fun h2 h3 => h2 (hn.1 h3)))]
    | drop hk j hj hc hv b1 b2 hbk hb =>
      rw [cval_drop hk hj hc, cval_drop hk hj hc]
      refine congrArg List.sum (List.map_congr_left fun c _ => ih j hj (by omega) fun v hv' => ?_)
      unfold upd1
      split
      · rfl
      · rename_i hne
        refine hf v ?_
        rw [hbk] at hv'; rw [hb]
        simp only [List.mem_append, List.mem_cons] at hv' ⊢
        rcases hv' with h | h | h
        · exact .inl h
        · subst h; exact absurd rfl hne
        · exact .inr h
    | meet hk j l hj hl hc hbk hbl =>
      rw [cval_meet hk hj hl hc, cval_meet hk hj hl hc, ih j hj (by omega) (f' := f') (fun v hv => hf v (by rw [← hbk]; exact hv)), ih l hl (by omega) (f' := f') (fun v hv => hf v (by rw [← hbl]; exact hv))]
theorem sumI_le {α : Type} {f : α → Int} {M : Int} : ∀ {l : List α}, (∀ x ∈ l, 0 ≤ f x ∧ f x ≤ M) → 0 ≤ (l.map f).sum ∧ (l.map f).sum ≤ l.length * M
  | [], _ => by simp
  | x :: l, h => by
    have h1 := h x (by simp)
    have h2 := sumI_le (l := l) fun y hy => h y (by simp [hy])
    rw [List.map_cons, List.sum_cons, List.length_cons]
    have e : ((l.length + 1 : Nat) : Int) * M = l.length * M + M := by rw [Int.natCast_add, Int.add_mul]; simp
    rw [e]; omega
theorem cval_le (h : NiceIs g K V B C) : ∀ (i : Nat), i < K.length → ∀ (f : Nat → Nat), 0 ≤ cval g K V B C k st i f ∧ cval g K V B C k st i f ≤ ((k ^ dn K C i : Nat) : Int) := by
  intro i
  induction i using Nat.strongRecOn with
  | _ i ih =>
    intro hi f
    cases h.node hi with
    | leaf hk hb hc => rw [cval_leaf hk, dn_none hc, if_neg (by omega)]; simp
    | add hk j hj hc hv b1 b2 hb hbk =>
      have h1 := ih j hj (by omega) f
      rw [cval_add hk hj hc, dn_one hj hc, if_neg (show ¬ K.getD i 0 = 3 by omega), Nat.zero_add]
      split
      · exact h1
      · omega
    | drop hk j hj hc hv b1 b2 hbk hb =>
      rw [cval_drop hk hj hc, dn_one hj hc, if_pos hk, Nat.pow_add, Nat.pow_one]
      have := sumI_le (l := List.range k) (f := fun c => cval g K V B C k st j (upd1 f (V.getD i 0).toNat c)) (M := ((k ^ dn K C j : Nat) : Int)) fun c _ => ih j hj (by omega) _
      rw [List.length_range] at this
      rw [Int.natCast_mul]; exact this
    | meet hk j l hj hl hc hbk hbl =>
      have h1 := ih j hj (by omega) f
      have h2 := ih l hl (by omega) f
      rw [cval_meet hk hj hl hc, dn_two hj hl hc, if_neg (by omega), Nat.zero_add, Nat.pow_add, Int.natCast_mul]
      exact ⟨Int.mul_nonneg h1.1 h2.1, Int.mul_le_mul h1.2 h2.2 h2.1 (Int.natCast_nonneg _)⟩
theorem cval_in (h : NiceIs g K V B C) (hk4 : k ≤ 4) (hi : i < K.length) (f : Nat → Nat) : 0 ≤ cval g K V B C k st i f ∧ cval g K V B C k st i f ≤ 4294967296 := by
  have h1 := cval_le (k := k) (st := st) h i hi f
  refine ⟨h1.1, Int.le_trans h1.2 ?_⟩
  have : k ^ dn K C i ≤ 4294967296 := by
    have hd := h.dn_le hi
    rcases Nat.eq_zero_or_pos k with e | e
    · subst e
      rcases Nat.eq_zero_or_pos (dn K C i) with e | e
      · rw [e]; decide
      · rw [Nat.zero_pow e]; omega
    · calc k ^ dn K C i ≤ 4 ^ dn K C i := Nat.pow_le_pow_left hk4 _
        _ ≤ 4 ^ 16 := Nat.pow_le_pow_right (by decide) hd
        _ ≤ 4294967296 := by decide
  omega
/-! ## rows -/
noncomputable def dec (k : Nat) (b : List Int) (s : Nat) : Nat → Nat := open Classical in
  if h : ∃ f : Nat → Nat, (∀ v ∈ b, f v.toNat < k) ∧ cod k b f = s then h.choose else fun _ => 0
theorem dec_spec {k : Nat} {b : List Int} (hb : b.Pairwise (fun u v => u.toNat ≠ v.toNat)) {s : Nat} (hs : s < k ^ b.length) : (∀ v ∈ b, dec k b s v.toNat < k) ∧ cod k b (dec k b s) = s := by
  obtain ⟨f, h1, _, h3⟩ := cod_surj b hb s hs
  have e : ∃ f : Nat → Nat, (∀ v ∈ b, f v.toNat < k) ∧ cod k b f = s := ⟨f, h1, h3⟩
  unfold dec
  rw [dif_pos e]
  exact e.choose_spec
theorem cod_inj {k : Nat} : ∀ {b : List Int} {f f' : Nat → Nat}, (∀ v ∈ b, f v.toNat < k) → (∀ v ∈ b, f' v.toNat < k) → cod k b f = cod k b f' → ∀ v ∈ b, f v.toNat = f' v.toNat
  | [], _, _, _, _, _ => by simp
  | u :: b, f, f', h, h', e => by
    rw [cod_cons, cod_cons] at e
    have h1 := h u (by simp)
    have h2 := h' u (by simp)
    have e1 : f u.toNat = f' u.toNat := by
      have := congrArg (· % k) e
      simp only [Nat.add_mul_mod_self_left, Nat.mod_eq_of_lt h1, Nat.mod_eq_of_lt h2] at this
      exact this
    have e2 : cod k b f = cod k b f' := Nat.eq_of_mul_eq_mul_left (show 0 < k by omega) (by omega)
    intro v hv
    rcases List.mem_cons.1 hv with rfl | hv
    · exact e1
    · exact cod_inj (fun v hv => h v (by simp [hv])) (fun v hv => h' v (by simp [hv])) e2 v hv
noncomputable def rowOf (k : Nat) (b : List Int) (v : (Nat → Nat) → Int) : List Int := (List.range (k ^ b.length)).map fun s => v (dec k b s)
theorem rowOf_idx {β : Type} {b : List Int} (hb : b.Pairwise (fun u v => u.toNat ≠ v.toNat)) {v : (Nat → Nat) → Int} (hv : ∀ f f', (∀ x ∈ b, f x.toNat = f' x.toNat) → v f = v f') {f : Nat → Nat} (hf : ∀ x ∈ b, f x.toNat < k) (q : Int → Option β) :
    idx (rowOf k b v) ((cod k b f : Nat) : Int) q = q (v f) := by
  have hs := cod_lt hf
  unfold rowOf
  rw [idx_range hs]
  have hd := dec_spec hb hs
  rw [hv _ f (cod_inj hd.1 hf hd.2)]
noncomputable def rowTo (k : Nat) (b : List Int) (v : (Nat → Nat) → Int) (s : Nat) : List Int := (List.range (k ^ b.length)).map fun t => if t < s then v (dec k b t) else 0
theorem rowTo_all (k : Nat) (b : List Int) (v : (Nat → Nat) → Int) : rowTo k b v (k ^ b.length) = rowOf k b v := List.map_congr_left fun t ht => if_pos (by simpa using ht)
theorem rowTo_zero (k : Nat) (b : List Int) (v : (Nat → Nat) → Int) : rowTo k b v 0 = List.replicate (k ^ b.length) 0 := by
  unfold rowTo
  rw [List.eq_replicate_iff]
  exact ⟨by simp, fun x hx => by obtain ⟨t, _, rfl⟩ := List.mem_map.1 hx; exact if_neg (by omega)⟩
theorem rowTo_len (k : Nat) (b : List Int) (v : (Nat → Nat) → Int) (s : Nat) : (rowTo k b v s).length = k ^ b.length := by simp [rowTo]
theorem rowTo_set {b : List Int} {v : (Nat → Nat) → Int} {s : Nat} (hs : s < k ^ b.length) {x : Int} (hx : v (dec k b s) = x) : (rowTo k b v s).set s x = rowTo k b v (s + 1) := by
  unfold rowTo
  refine range_set hs ?_ fun t ht => ?_
  · rw [if_pos (by omega)]; exact hx
  · by_cases c : t < s
    · rw [if_pos c, if_pos (by omega)]
    · rw [if_neg c, if_neg (by omega)]
theorem rowTo_skip {b : List Int} {v : (Nat → Nat) → Int} {s : Nat} (hx : v (dec k b s) = 0) : rowTo k b v s = rowTo k b v (s + 1) := by
  unfold rowTo
  refine List.map_congr_left fun t _ => ?_
  by_cases c : t < s
  · rw [if_pos c, if_pos (by omega)]
  · rw [if_neg c]
    by_cases e : t = s
    · subst e; rw [if_pos (by omega), hx]
    · rw [if_neg (by omega)]
theorem getD_idx {β : Type} {l : List Int} {i : Nat} (h : i < l.length) (q : Int → Option β) : idx l (i : Int) q = q (l.getD i 0) := by
  rw [idx_nat h, List.getD_eq_getElem?_getD, List.getElem?_eq_getElem h]; rfl
theorem getL_idx {α β : Type} {l : List (List α)} {i : Nat} (h : i < l.length) (q : List α → Option β) : idx l (i : Int) q = q (l.getD i []) := by
  rw [idx_nat h, List.getD_eq_getElem?_getD, List.getElem?_eq_getElem h]; rfl
noncomputable def rows (k : Nat) (B : List (List Int)) (v : Nat → (Nat → Nat) → Int) (i : Nat) : List (List Int) := (List.range i).map fun j => rowOf k (B.getD j []) (v j)
theorem rows_len (k : Nat) (B : List (List Int)) (v : Nat → (Nat → Nat) → Int) (i : Nat) : (rows k B v i).length = i := by simp [rows]
theorem rows_idx {β : Type} {v : Nat → (Nat → Nat) → Int} {i j : Nat} (h : j < i) (q : List Int → Option β) : idx (rows k B v i) (j : Int) q = q (rowOf k (B.getD j []) (v j)) := by
  rw [idx_nat (by rw [rows_len]; exact h)]
  simp [rows]
theorem rows_succ (v : Nat → (Nat → Nat) → Int) (i : Nat) : rows k B v (i + 1) = rows k B v i ++ [rowOf k (B.getD i []) (v i)] := by unfold rows; rw [List.range_succ, List.map_append]; rfl
open Classical in
theorem l29Colours_row (h : NiceIs g K V B C) (hl : ∀ x ∈ g, x.length ≤ 1048576) (hk4 : k ≤ 4) (hi : i < K.length) {s : Nat} (hs : s < k ^ (B.getD i []).length) :
    F_spec_l29Colours_l2 g K V B C (k : Int) (i : Int) (B.getD i []) st (rows k B (cval g K V B C k st) i) (rowTo k (B.getD i []) (cval g K V B C k st i) s) (s : Int)
      = some (.inl (st, rows k B (cval g K V B C k st) i, rowTo k (B.getD i []) (cval g K V B C k st i) (s + 1), ((s + 1 : Nat) : Int))) := by
  have hm : K.length ≤ 200 := h.2.1.2
  have hV : V.length = K.length := h.2.2.1
  have hB : B.length = K.length := h.2.2.2.1
  have hC : C.length = K.length := h.2.2.2.2.1
  have hb8 : ∀ {j}, j < K.length → (B.getD j []).length ≤ 8 := fun hj => (h.bag hj).1
  have hs2 : s ≤ 262144 := by have := pow_in hk4 (show (B.getD i []).length ≤ 9 by have := hb8 hi; omega); omega
  obtain ⟨hd1, hd2⟩ := dec_spec (h.nodup hi) hs
  have hf : ∃ f, f = dec k (B.getD i []) s := ⟨_, rfl⟩
  obtain ⟨f, ef⟩ := hf
  rw [← ef] at hd1 hd2
  have hci : ∀ {j : Nat} {x y : Nat → Nat}, j < K.length → (∀ v ∈ B.getD j [], x v.toNat = y v.toNat) → cval g K V B C k st j x = cval g K V B C k st j y := fun hj hx => cval_congr h _ hj hx
  have fin : ∀ {x : Int}, x = cval g K V B C k st i f → (rowTo k (B.getD i []) (cval g K V B C k st i) s).set s x = rowTo k (B.getD i []) (cval g K V B C k st i) (s + 1) := fun hx => rowTo_set hs (by rw [← ef, hx])
  unfold F_spec_l29Colours_l2
  rw [if_pos (by rw [rowTo_len]; omega), getD_idx hi]
  have rlen : s < (rowTo k (B.getD i []) (cval g K V B C k st i) s).length := by rw [rowTo_len]; exact hs
  have e1 : (s : Int) + 1 = ((s + 1 : Nat) : Int) := by omega
  cases h.node hi with
  | leaf hk hb hc =>
    rw [if_pos hk, idx_nat rlen, ck_of (inI (by omega) (by omega)), Int.toNat_natCast, fin (by rw [cval_leaf hk]), e1]
  | add hk j hj hc hv b1 b2 hb hbk =>
    have hk0 : 0 < k := by have := hd1 (V.getD i 0) (by rw [hb]; simp); omega
    have hnd := h.nodup hi
    rw [hb] at hnd
    have hb1 : ∀ u ∈ b1, u ≠ V.getD i 0 := fun u hu e => (List.pairwise_append.1 hnd).2.2 u hu (V.getD i 0) (by simp) (by rw [e])
    have hl1 : b1.length ≤ 8 := by have := hb8 hi; rw [hb, List.length_append] at this; omega
    have hat : F_spec_l29At (B.getD i []) (V.getD i 0) = some ((b1.length : Nat) : Int) := by rw [hb]; exact l29At_eq hb1 hl1
    have hdg : F_spec_l29Digit (s : Int) (k : Int) ((b1.length : Nat) : Int) = some ((f (V.getD i 0).toNat : Nat) : Int) := by
      rw [l29Digit_eq hk4 hk0 hl1, ← hd2, hb, cod_digit (by rw [← hb]; exact hd1)]
    have hout : F_spec_l29Out (s : Int) (k : Int) ((b1.length : Nat) : Int) = some ((cod k (B.getD j []) f : Nat) : Int) := by
      rw [l29Out_eq hk4 hk0 hl1 hs2, ← hd2, hb, cod_out (by rw [← hb]; exact hd1), hbk]
    have hnear : F_spec_l29Near g (B.getD i []) (s : Int) (k : Int) (V.getD i 0) ((f (V.getD i 0).toNat : Nat) : Int) = some (decide (nearC g (B.getD i []) f (V.getD i 0) (f (V.getD i 0).toNat))) := by
      rw [← hd2]; exact l29Near_eq hl hk4 hk0 (hb8 hi) hd1 hv.1 hv.2 _
    have hfk : ∀ x ∈ B.getD j [], f x.toNat < k := fun x hx => hd1 x (by rw [hb]; rw [hbk] at hx; simp at hx ⊢; rcases hx with h | h; exact .inl h; exact .inr (.inr h))
    have hrow : ∀ {β : Type} (q : Int → Option β), idx (rowOf k (B.getD j []) (cval g K V B C k st j)) ((cod k (B.getD j []) f : Nat) : Int) q = q (cval g K V B C k st j f) := fun q => rowOf_idx (h.nodup (by omega)) (fun x y hx => hci (by omega) hx) hfk q
    have hkid : ∀ {β : Type} (q : List Int → Option β), idx C (i : Int) q = q [(j : Int)] := fun q => by rw [getL_idx (by omega), hc]
    have h0 : ∀ {β : Type} (q : Int → Option β), idx [(j : Int)] 0 q = q (j : Int) := fun q => rfl
    rw [if_neg (by omega), if_pos hk, getD_idx (by omega), cal_of hat, cal_of hdg]
    have hval := cval_add (g := g) (V := V) (B := B) (k := k) (st := st) hk hj hc f
    cases st with
    | true =>
      rw [if_pos rfl]
      by_cases c0 : f (V.getD i 0).toNat = 0
      · rw [if_pos (by omega), hkid, h0, rows_idx hj, cal_of hout, hrow, idx_nat rlen, ck_of (inI (by omega) (by omega)), Int.toNat_natCast, fin (by rw [hval, if_pos (.inl ⟨rfl, c0⟩)]), e1]
      · rw [if_neg (by omega), getD_idx (by omega), cal_of hnear]
        by_cases cn : nearC g (B.getD i []) f (V.getD i 0) (f (V.getD i 0).toNat)
        · rw [if_neg (by rw [decide_eq_true cn]; simp), ck_of (inI (by omega) (by omega)), rowTo_skip (s := s) (by rw [← ef, hval, if_neg (by rintro (h | h); exact c0 h.2; exact h cn)]), e1]
        · rw [if_pos (by rw [decide_eq_false cn]; simp), hkid, h0, rows_idx hj, cal_of hout, hrow, idx_nat rlen, ck_of (inI (by omega) (by omega)), Int.toNat_natCast, fin (by rw [hval, if_pos (.inr cn)]), e1]
    | false =>
      rw [if_neg (by simp), getD_idx (by omega), cal_of hnear]
      by_cases cn : nearC g (B.getD i []) f (V.getD i 0) (f (V.getD i 0).toNat)
      · rw [if_neg (by rw [decide_eq_true cn]; simp), ck_of (inI (by omega) (by omega)), rowTo_skip (s := s) (by rw [← ef, hval, if_neg (by rintro (h | h); cases h.1; exact h cn)]), e1]
      · rw [if_pos (by rw [decide_eq_false cn]; simp), hkid, h0, rows_idx hj, cal_of hout, hrow, idx_nat rlen, ck_of (inI (by omega) (by omega)), Int.toNat_natCast, fin (by rw [hval, if_pos (.inr cn)]), e1]
  | drop hk j hj hc hv b1 b2 hbk hb =>
    have hnd := h.nodup (i := j) (by omega)
    have hbj8 := hb8 (j := j) (by omega)
    rw [hbk] at hnd hbj8
    have hb1 : ∀ u ∈ b1, u ≠ V.getD i 0 := fun u hu e => (List.pairwise_append.1 hnd).2.2 u hu (V.getD i 0) (by simp) (by rw [e])
    have hl1 : b1.length ≤ 8 := by rw [List.length_append] at hbj8; omega
    have hat : F_spec_l29At (B.getD j []) (V.getD i 0) = some ((b1.length : Nat) : Int) := by rw [hbk]; exact l29At_eq hb1 hl1
    have hne : ∀ u ∈ b1 ++ b2, u.toNat ≠ (V.getD i 0).toNat := fun u hu => by
      rcases List.mem_append.1 hu with g1 | g1
      · exact (List.pairwise_append.1 hnd).2.2 u g1 (V.getD i 0) (by simp)
      · exact fun e => (List.pairwise_cons.1 (List.pairwise_append.1 hnd).2.1).1 u g1 e.symm
    have hkid : ∀ {β : Type} (q : List Int → Option β), idx C (i : Int) q = q [(j : Int)] := fun q => by rw [getL_idx (by omega), hc]
    have h0 : ∀ {β : Type} (q : Int → Option β), idx [(j : Int)] 0 q = q (j : Int) := fun q => rfl
    rw [if_neg (by omega), if_neg (by omega), if_pos hk, hkid, h0, getL_idx (by omega), getD_idx (by omega), cal_of hat]
    have hval := cval_drop (g := g) (V := V) (B := B) (k := k) (st := st) hk hj hc f
    let w := fun c => cval g K V B C k st j (upd1 f (V.getD i 0).toNat c)
    have part : ∀ c, c ≤ k → 0 ≤ ((List.range c).map w).sum ∧ ((List.range c).map w).sum ≤ 17179869184 := fun c hc' => by
      have := sumI_le (l := List.range c) (f := w) (M := 4294967296) fun x _ => cval_in h hk4 (by omega) _
      rw [List.length_range] at this
      have : (c : Int) * 4294967296 ≤ 4 * 4294967296 := Int.mul_le_mul_of_nonneg_right (by omega) (by omega)
      omega
    have key := lp_upto (step := fun s1 => F_spec_l29Colours_l3 C (k : Int) (i : Int) (s : Int) ((b1.length : Nat) : Int) s1.1 s1.2.1 s1.2.2)
      (fun c => (rows k B (cval g K V B C k st) i, (rowTo k (B.getD i []) (cval g K V B C k st i) s).set s ((List.range c).map w).sum, (c : Int))) k
      (o := Sum.inl (rows k B (cval g K V B C k st) i, rowTo k (B.getD i []) (cval g K V B C k st i) (s + 1))) (s := (rows k B (cval g K V B C k st) i, rowTo k (B.getD i []) (cval g K V B C k st i) s, (0 : Int)))
      (by
        have : (rowTo k (B.getD i []) (cval g K V B C k st i) s).set s 0 = rowTo k (B.getD i []) (cval g K V B C k st i) s := by
          refine List.ext_getElem? fun t => ?_
          rw [List.getElem?_set]
          by_cases e : s = t
          · subst e; rw [if_pos rfl, if_pos rlen, List.getElem?_eq_getElem rlen]; unfold rowTo; simp
          · rw [if_neg e]
        show _ = (_, List.set _ _ (0 : Int), _)
        rw [this]; rfl)
      (fun c hck => by
        simp only [F_spec_l29Colours_l3]
        have hk0 : 0 < k := by omega
        have hin : F_spec_l29In (s : Int) (k : Int) ((b1.length : Nat) : Int) (c : Int) = some ((cod k (B.getD j []) (upd1 f (V.getD i 0).toNat c) : Nat) : Int) := by
          rw [l29In_eq hk4 hk0 hl1 (by omega) hs2, ← hd2, hb, cod_in hk0 (by rw [← hb]; exact hd1) hne, hbk]
        have hfk : ∀ x ∈ B.getD j [], upd1 f (V.getD i 0).toNat c x.toNat < k := fun x hx => by
          unfold upd1; split
          · exact hck
          · rename_i hxn
            refine hd1 x ?_
            rw [hbk] at hx; rw [hb]
            simp only [List.mem_append, List.mem_cons] at hx ⊢
            rcases hx with h | h | h
            · exact .inl h
            · subst h; exact absurd rfl hxn
            · exact .inr h
        have hrow : ∀ {β : Type} (q : Int → Option β), idx (rowOf k (B.getD j []) (cval g K V B C k st j)) ((cod k (B.getD j []) (upd1 f (V.getD i 0).toNat c) : Nat) : Int) q = q (w c) := fun q => rowOf_idx (h.nodup (by omega)) (fun x y hx => hci (by omega) hx) hfk q
        have hget : ∀ {β : Type} (y : Int) (q : Int → Option β), idx ((rowTo k (B.getD i []) (cval g K V B C k st i) s).set s y) (s : Int) q = q y := fun y q => idx_of (by omega) (by rw [Int.toNat_natCast, List.getElem?_set_self rlen])
        have p1 := part c (by omega)
        have p2 := part (c + 1) (by omega)
        have es : ((List.range (c + 1)).map w).sum = ((List.range c).map w).sum + w c := by rw [List.range_succ, List.map_append, List.sum_append]; simp
        rw [if_pos (by omega), hget, hkid, h0, rows_idx hj, cal_of hin, hrow, ck_of (inI (by omega) (by omega)), hget, ck_of (inI (by omega) (by omega)), Int.toNat_natCast, List.set_set, ← es]; rfl)
      (by
        simp only [F_spec_l29Colours_l3]
        rw [if_neg (by omega), fin (by rw [hval])])
    rw [key, bnd_inl_eq]
    unfold F_spec_l29Colours_k4
    rw [ck_of (inI (by omega) (by omega)), e1]
  | meet hk j l hj hl' hc hbk hbl =>
    have hkid : ∀ {β : Type} (q : List Int → Option β), idx C (i : Int) q = q [(j : Int), (l : Int)] := fun q => by rw [getL_idx (by omega), hc]
    have h0 : ∀ {β : Type} (q : Int → Option β), idx [(j : Int), (l : Int)] 0 q = q (j : Int) := fun q => rfl
    have h1 : ∀ {β : Type} (q : Int → Option β), idx [(j : Int), (l : Int)] 1 q = q (l : Int) := fun q => rfl
    have hrow : ∀ {β : Type} (q : Int → Option β), idx (rowOf k (B.getD j []) (cval g K V B C k st j)) (s : Int) q = q (cval g K V B C k st j f) := fun q => by
      rw [← hd2, hbk]; exact rowOf_idx (h.nodup hi) (fun x y hx => hci (by omega) (by rw [hbk]; exact hx)) hd1 q
    have hrow2 : ∀ {β : Type} (q : Int → Option β), idx (rowOf k (B.getD l []) (cval g K V B C k st l)) (s : Int) q = q (cval g K V B C k st l f) := fun q => by
      rw [← hd2, hbl]; exact rowOf_idx (h.nodup hi) (fun x y hx => hci (by omega) (by rw [hbl]; exact hx)) hd1 q
    have hval := cval_meet (g := g) (V := V) (B := B) (k := k) (st := st) hk hj hl' hc f
    have hin := cval_in (k := k) (st := st) h hk4 hi f
    rw [hval] at hin
    rw [if_neg (by omega), if_neg (by omega), if_neg (by omega), if_pos hk, hkid, h0, rows_idx hj, hrow, hkid, h1, rows_idx hl', hrow2, ck_of (inI (by omega) (by omega)), idx_nat rlen, ck_of (inI (by omega) (by omega)), Int.toNat_natCast, fin hval.symm, e1]
theorem l29Colours_eq (h : NiceIs g K V B C) (hl : ∀ x ∈ g, x.length ≤ 1048576) (hk4 : k ≤ 4) : F_spec_l29Colours g K V B C (k : Int) st = some (cval g K V B C k st (K.length - 1) fun _ => 0) := by
  have hm := h.2.1
  have hB : B.length = K.length := h.2.2.2.1
  unfold F_spec_l29Colours
  have key := lp_upto (step := fun s => F_spec_l29Colours_l1 g K V B C (k : Int) s.1 s.2.1 s.2.2) (fun i => (st, rows k B (cval g K V B C k st) i, (i : Int))) K.length (o := Sum.inl (rows k B (cval g K V B C k st) K.length)) (s := (st, ([] : List (List Int)), (0 : Int))) rfl (fun i hi => by
    simp only [F_spec_l29Colours_l1]
    have hb := (h.bag hi).1
    have hp := pow_in hk4 (show (B.getD i []).length ≤ 9 by omega)
    rw [if_pos (by omega), getL_idx (by omega), cal_of (l29Power_eq hk4 (by omega)), mkS_of (by omega) (by simp only [lim]; omega), Int.toNat_natCast, ← rowTo_zero k (B.getD i []) (cval g K V B C k st i)]
    have k2 := lp_upto (step := fun s => F_spec_l29Colours_l2 g K V B C (k : Int) (i : Int) (B.getD i []) s.1 s.2.1 s.2.2.1 s.2.2.2) (fun s => (st, rows k B (cval g K V B C k st) i, rowTo k (B.getD i []) (cval g K V B C k st i) s, (s : Int))) (k ^ (B.getD i []).length)
      (o := Sum.inl (st, rows k B (cval g K V B C k st) i, rowOf k (B.getD i []) (cval g K V B C k st i))) (s := (st, rows k B (cval g K V B C k st) i, rowTo k (B.getD i []) (cval g K V B C k st i) 0, (0 : Int))) rfl (fun s hs => l29Colours_row h hl hk4 hi hs) (by
        simp only [F_spec_l29Colours_l2]
        rw [if_neg (by rw [rowTo_len]; omega), rowTo_all])
    rw [k2, bnd_inl_eq]
    unfold F_spec_l29Colours_k5
    rw [app1_s (by rw [rows_len]; omega), ck_of (inI (by omega) (by omega)), rows_succ]; rfl) (by
    simp only [F_spec_l29Colours_l1]
    rw [if_neg (by omega)])
  rw [key, bnd_inl_eq]
  unfold F_spec_l29Colours_k6
  rw [rows_len, ck_of (inI (by omega) (by omega)), show (K.length : Int) - 1 = ((K.length - 1 : Nat) : Int) by omega, rows_idx (by omega)]
  have e : ((0 : Nat) : Int) = ((cod k (B.getD (K.length - 1) []) (fun _ => 0) : Nat) : Int) := by rw [h.last]; rfl
  show idx _ ((0 : Nat) : Int) _ = _
  rw [e, rowOf_idx (h.nodup (by omega)) (fun x y hx => cval_congr h _ (by omega) hx) (fun x hx => by rw [h.last] at hx; cases hx)]
end
end Go.Proofs.YtnebbhginakaiaaDoor

/- What the run over tables finds, for rules that count: as many as the reference. -/
namespace Go.Proofs.YtnebbhginakaiaaDoor
def valid (k : Nat) (b : List Int) (f : Nat → Nat) : Prop := ∀ v ∈ b, f v.toNat < k
open Classical in
noncomputable def mayC (g : List (List Int)) (k : Nat) (st : Bool) (b : List Int) (v : Int) (f : Nat → Nat) : List Nat := (List.range k).filter fun c => decide ((st = true ∧ c = 0) ∨ ¬ nearC g b (upd1 f v.toNat c) v c)
structure Lin (κ : Type) [DecidableEq κ] (g : List (List Int)) (k : Nat) (st : Bool) (mask : List Int → Option (BitVec 32)) (R : Ru κ) (key : List Int → (Nat → Nat) → κ) : Prop where
  same : ∀ {b f f'}, Rises b g.length → valid k b f → valid k b f' → (key b f = key b f' ↔ ∀ v ∈ b, f v.toNat = f' v.toNat)
  msk : ∀ {b}, Rises b g.length → ∃ mb, mask b = some mb
  add : ∀ {b1 b2 v f mb}, Rises (b1 ++ v :: b2) g.length → Rises (b1 ++ b2) g.length → mask (b1 ++ b2) = some mb → valid k (b1 ++ b2) f →
    R.add (key (b1 ++ b2) f) v mb = some ((mayC g k st (b1 ++ v :: b2) v f).map fun c => key (b1 ++ v :: b2) (upd1 f v.toNat c))
  drop : ∀ {b1 b2 v f mb n}, Rises (b1 ++ v :: b2) g.length → Rises (b1 ++ b2) g.length → mask (b1 ++ b2) = some mb → valid k (b1 ++ v :: b2) f → InI n → R.drop (key (b1 ++ v :: b2) f) v mb n = some (putT noT (key (b1 ++ b2) f) n)
  meet : ∀ s t, R.meet s t = (s, decide (s = t))
  both : ∀ x y, R.both x y = wr (x * y)
  pick : R.pick = pSum
section
variable {κ : Type} [DecidableEq κ] {g : List (List Int)} {K V : List Int} {B C : List (List Int)} {k : Nat} {st : Bool} {mask : List Int → Option (BitVec 32)} {R : Ru κ} {key : List Int → (Nat → Nat) → κ}
structure TJ (g : List (List Int)) (K V : List Int) (B C : List (List Int)) (k : Nat) (st : Bool) (key : List Int → (Nat → Nat) → κ) (j : Nat) (T : Tf κ) : Prop where
  fin : finT T
  ok : okT T
  supp : ∀ a n, T a = some n → ∃ f, valid k (B.getD j []) f ∧ a = key (B.getD j []) f
  val : ∀ f, valid k (B.getD j []) f → eqv ((T (key (B.getD j []) f)).getD 0) (cval g K V B C k st j f)
theorem sumAt_sing (a a' : κ) (n : Int) : sumAt [(a, n)] a' = if a = a' then n else 0 := by simp [sumAt]
theorem sumAt_map {α : Type} (l : List α) (h : α → κ) (n : Int) (a : κ) : sumAt (l.map fun c => (h c, n)) a = (l.map fun c => if h c = a then n else 0).sum := by unfold sumAt; rw [List.map_map]; rfl
theorem sum_pick {α : Type} [DecidableEq α] {n : Int} (x : α) : ∀ {l : List α}, l.Nodup → (l.map fun c => if c = x then n else 0).sum = if x ∈ l then n else 0
  | [], _ => by simp
  | c :: l, h => by
    rw [List.nodup_cons] at h
    rw [List.map_cons, List.sum_cons, sum_pick x h.2]
    by_cases e : c = x
    · subst e; rw [if_pos rfl, if_neg h.1, if_pos (by simp)]; omega
    · rw [if_neg e]
      by_cases hx : x ∈ l
      · rw [if_pos hx, if_pos (by simp [hx])]; omega
      · rw [if_neg hx, if_neg (by simp [hx]; exact fun h => e h.symm)]; omega
theorem lst_put (a : κ) (n : Int) : lst (putT noT a n) = [(a, n)] := by
  have h : IsL [(a, n)] (putT (noT : Tf κ) a n) := by have := (IsL.empty (κ := κ)).push (a := a) (n := n) rfl; simpa using this
  exact List.perm_singleton.1 ((lst_is h).perm h)
theorem upd_self {b1 b2 : List Int} {v : Int} (hne : ∀ u ∈ b1 ++ b2, u.toNat ≠ v.toNat) (f : Nat → Nat) (c : Nat) : ∀ u ∈ b1 ++ b2, upd1 f v.toNat c u.toNat = f u.toNat := fun u hu => by unfold upd1; rw [if_neg (hne u hu)]
theorem valid_less {b1 b2 : List Int} {v : Int} {f : Nat → Nat} (h : valid k (b1 ++ v :: b2) f) : valid k (b1 ++ b2) f := fun u hu => h u (by simp at hu ⊢; rcases hu with h | h; exact .inl h; exact .inr (.inr h))
theorem valid_more {b1 b2 : List Int} {v : Int} {f : Nat → Nat} {c : Nat} (h : valid k (b1 ++ b2) f) (hc : c < k) : valid k (b1 ++ v :: b2) (upd1 f v.toNat c) := fun u hu => by
  unfold upd1
  split
  · exact hc
  · rename_i hn
    refine h u ?_
    simp only [List.mem_append, List.mem_cons] at hu ⊢
    rcases hu with h | h | h
    · exact .inl h
    · subst h; exact absurd rfl hn
    · exact .inr h
theorem nodup_split {b1 b2 : List Int} {v : Int} (h : (b1 ++ v :: b2).Pairwise (fun u v => u.toNat ≠ v.toNat)) : ∀ u ∈ b1 ++ b2, u.toNat ≠ v.toNat := fun u hu => by
  rcases List.mem_append.1 hu with g1 | g1
  · exact (List.pairwise_append.1 h).2.2 u g1 v (by simp)
  · exact fun e => (List.pairwise_cons.1 (List.pairwise_append.1 h).2.1).1 u g1 e.symm
open Classical in
theorem mayC_upd {b1 b2 : List Int} {v : Int} {f : Nat → Nat} (hn : ∀ u ∈ b1 ++ b2, u.toNat ≠ v.toNat) (hc : f v.toNat < k) :
    f v.toNat ∈ mayC g k st (b1 ++ v :: b2) v f ↔ ((st = true ∧ f v.toNat = 0) ∨ ¬ nearC g (b1 ++ v :: b2) f v (f v.toNat)) := by
  have e : upd1 f v.toNat (f v.toNat) = f := by funext x; unfold upd1; split; rename_i h; rw [h]; rfl
  unfold mayC
  rw [List.mem_filter, List.mem_range, decide_eq_true_iff, e]
  exact ⟨fun h => h.2, fun h => ⟨hc, h⟩⟩
theorem node_add (hL : Lin κ g k st mask R key) (h : NiceIs g K V B C) {i : Nat} (hi : i < K.length) (hk : K.getD i 0 = 2) {j : Nat} (hj : j < i) (hc : C.getD i [] = [(j : Int)]) {b1 b2 : List Int} (hb : B.getD i [] = b1 ++ V.getD i 0 :: b2) (hbk : B.getD j [] = b1 ++ b2)
    {T : Tf κ} (hT : TJ g K V B C k st key j T) {mb : BitVec 32} (hmb : mask (B.getD j []) = some mb) : ∃ T', gatF R T (cAdd R (V.getD i 0) mb) = some T' ∧ TJ g K V B C k st key i T' := by
  have hr := (h.bag hi).2
  have hrk := (h.bag (i := j) (by omega)).2
  have hnd := nodup_split (by rw [← hb]; exact h.nodup hi)
  rw [hb] at hr; rw [hbk] at hrk hmb
  have hadd : ∀ {f : Nat → Nat} (n : Int), valid k (b1 ++ b2) f → cAdd R (V.getD i 0) mb (key (b1 ++ b2) f, n) = some ((mayC g k st (b1 ++ V.getD i 0 :: b2) (V.getD i 0) f).map fun c => (key (b1 ++ V.getD i 0 :: b2) (upd1 f (V.getD i 0).toNat c), n)) := fun {f} n hf => by
    unfold cAdd
    rw [hL.add hr hrk hmb hf, Option.map_some, List.map_map]; rfl
  have hsupp : ∀ a n, T a = some n → ∃ f, valid k (b1 ++ b2) f ∧ a = key (b1 ++ b2) f := fun a n ha => by have := hT.supp a n ha; rwa [hbk] at this
  have hG : ∀ a n, T a = some n → cAdd R (V.getD i 0) mb (a, n) = some ((cAdd R (V.getD i 0) mb (a, n)).getD []) := fun a n ha => by
    obtain ⟨f, hf, rfl⟩ := hsupp a n ha
    rw [hadd n hf]; rfl
  have hcs : ∀ {f : Nat → Nat} {c : Nat}, c ∈ mayC g k st (b1 ++ V.getD i 0 :: b2) (V.getD i 0) f → c < k := fun hc => by
    unfold mayC at hc; rw [List.mem_filter] at hc; simpa using hc.1
  obtain ⟨T', hT', hfin, hs, hok, hsum⟩ := gatF_sum hL.pick hT.fin (fun p => (cAdd R (V.getD i 0) mb p).getD []) hG
  refine ⟨T', hT', hfin, hok fun s n hn p hp => ?_, fun a n ha => ?_, fun f hf => ?_⟩
  · obtain ⟨f, hf, rfl⟩ := hsupp s n hn
    rw [hadd n hf] at hp
    obtain ⟨c, _, rfl⟩ := List.mem_map.1 hp
    exact hT.ok _ _ hn
  · obtain ⟨s, m, m', hsm, hm⟩ := hs a (by rw [ha]; simp)
    obtain ⟨f, hf, rfl⟩ := hsupp s m hsm
    rw [hadd m hf] at hm
    obtain ⟨c, hc', e⟩ := List.mem_map.1 hm
    have e1 := congrArg Prod.fst e
    exact ⟨upd1 f (V.getD i 0).toNat c, by rw [hb]; exact valid_more hf (hcs hc'), by rw [hb]; exact e1.symm⟩
  · rw [hb] at hf ⊢
    have hfk : valid k (b1 ++ b2) f := valid_less hf
    have hval : ∀ {f' : Nat → Nat} (n : Int), valid k (b1 ++ b2) f' → sumAt ((cAdd R (V.getD i 0) mb (key (b1 ++ b2) f', n)).getD []) (key (b1 ++ V.getD i 0 :: b2) f) = if (∀ u ∈ b1 ++ b2, f' u.toNat = f u.toNat) ∧ f (V.getD i 0).toNat ∈ mayC g k st (b1 ++ V.getD i 0 :: b2) (V.getD i 0) f' then n else 0 := fun {f'} n hf' => by
      rw [hadd n hf', Option.getD_some, sumAt_map]
      by_cases ce : ∀ u ∈ b1 ++ b2, f' u.toNat = f u.toNat
      · have : ((mayC g k st (b1 ++ V.getD i 0 :: b2) (V.getD i 0) f').map fun c => if key (b1 ++ V.getD i 0 :: b2) (upd1 f' (V.getD i 0).toNat c) = key (b1 ++ V.getD i 0 :: b2) f then n else 0) = (mayC g k st (b1 ++ V.getD i 0 :: b2) (V.getD i 0) f').map fun c => if c = f (V.getD i 0).toNat then n else 0 := by
          refine List.map_congr_left fun c hc' => ?_
          have hiff : key (b1 ++ V.getD i 0 :: b2) (upd1 f' (V.getD i 0).toNat c) = key (b1 ++ V.getD i 0 :: b2) f ↔ c = f (V.getD i 0).toNat := by
            rw [hL.same hr (valid_more hf' (hcs hc')) hf]
            constructor
            · intro hx; have := hx (V.getD i 0) (by simp); rwa [show upd1 f' (V.getD i 0).toNat c (V.getD i 0).toNat = c by unfold upd1; rw [if_pos rfl]] at this
            · intro hx u hu
              simp only [List.mem_append, List.mem_cons] at hu
              by_cases eu : u.toNat = (V.getD i 0).toNat
              · rw [eu, hx]; unfold upd1; rw [if_pos rfl]
              · have hu' : u ∈ b1 ++ b2 := by
                  rcases hu with h | h | h
                  · simp [h]
                  · subst h; exact absurd rfl eu
                  · simp [h]
                rw [upd_self hnd f' c u hu', ce u hu']
          by_cases c1 : c = f (V.getD i 0).toNat
          · rw [if_pos (hiff.2 c1), if_pos c1]
          · rw [if_neg (fun h => c1 (hiff.1 h)), if_neg c1]
        rw [this, sum_pick _ (by unfold mayC; exact List.nodup_range.filter _)]
        by_cases c2 : f (V.getD i 0).toNat ∈ mayC g k st (b1 ++ V.getD i 0 :: b2) (V.getD i 0) f'
        · rw [if_pos c2, if_pos ⟨ce, c2⟩]
        · rw [if_neg c2, if_neg (fun h => c2 h.2)]
      · rw [if_neg (fun h => ce h.1)]
        refine sumI_zero fun c hc' => if_neg fun hx => ce fun u hu => ?_
        have := (hL.same hr (valid_more hf' (hcs hc')) hf).1 hx u (by simp at hu ⊢; rcases hu with h | h; exact .inl h; exact .inr (.inr h))
        rwa [upd_self hnd f' c u hu] at this
    refine (hsum _ [key (b1 ++ b2) f] (by simp) (fun s n hn hx => ?_)).trans ?_
    · obtain ⟨f', hf', rfl⟩ := hsupp s n hn
      rw [hval n hf', if_neg]
      rintro ⟨h1, _⟩
      exact hx (by rw [(hL.same hrk hf' hfk).2 h1]; simp)
    · have hih := hT.val f (by rw [hbk]; exact hfk)
      rw [hbk] at hih
      have hmay := mayC_upd (g := g) (st := st) hnd (hf (V.getD i 0) (by simp))
      rw [cval_add hk hj hc, hb]
      simp only [List.map_cons, List.map_nil, List.sum_cons, List.sum_nil, Int.add_zero]
      by_cases cm : f (V.getD i 0).toNat ∈ mayC g k st (b1 ++ V.getD i 0 :: b2) (V.getD i 0) f
      · rw [if_pos (hmay.1 cm)]
        refine eqv.trans ?_ hih
        cases hTk : T (key (b1 ++ b2) f) with
        | none => exact eqv.refl _
        | some n => simp only; rw [hval n hfk, if_pos ⟨fun _ _ => rfl, cm⟩]; exact eqv.refl _
      · rw [if_neg (fun h => cm (hmay.2 h))]
        cases hTk : T (key (b1 ++ b2) f) with
        | none => exact eqv.refl _
        | some n => simp only; rw [hval n hfk, if_neg (fun h => cm h.2)]; exact eqv.refl _
theorem node_drop (hL : Lin κ g k st mask R key) (h : NiceIs g K V B C) {i : Nat} (hi : i < K.length) (hk : K.getD i 0 = 3) {j : Nat} (hj : j < i) (hc : C.getD i [] = [(j : Int)]) {b1 b2 : List Int} (hbk : B.getD j [] = b1 ++ V.getD i 0 :: b2) (hb : B.getD i [] = b1 ++ b2)
    {T : Tf κ} (hT : TJ g K V B C k st key j T) {mb : BitVec 32} (hmb : mask (B.getD i []) = some mb) : ∃ T', gatF R T (cDrop R (V.getD i 0) mb) = some T' ∧ TJ g K V B C k st key i T' := by
  have hr := (h.bag hi).2
  have hrk := (h.bag (i := j) (by omega)).2
  have hnd := nodup_split (by rw [← hbk]; exact h.nodup (i := j) (by omega))
  rw [hb] at hr hmb; rw [hbk] at hrk
  have hdrop : ∀ {f : Nat → Nat} {n : Int}, valid k (b1 ++ V.getD i 0 :: b2) f → InI n → cDrop R (V.getD i 0) mb (key (b1 ++ V.getD i 0 :: b2) f, n) = some [(key (b1 ++ b2) f, n)] := fun {f n} hf hn => by
    unfold cDrop
    rw [hL.drop hrk hr hmb hf hn, Option.map_some, lst_put]
  have hsupp : ∀ a n, T a = some n → ∃ f, valid k (b1 ++ V.getD i 0 :: b2) f ∧ a = key (b1 ++ V.getD i 0 :: b2) f := fun a n ha => by have := hT.supp a n ha; rwa [hbk] at this
  have hG : ∀ a n, T a = some n → cDrop R (V.getD i 0) mb (a, n) = some ((cDrop R (V.getD i 0) mb (a, n)).getD []) := fun a n ha => by
    obtain ⟨f, hf, rfl⟩ := hsupp a n ha
    rw [hdrop hf (hT.ok _ _ ha)]; rfl
  obtain ⟨T', hT', hfin, hs, hok, hsum⟩ := gatF_sum hL.pick hT.fin (fun p => (cDrop R (V.getD i 0) mb p).getD []) hG
  refine ⟨T', hT', hfin, hok fun s n hn p hp => ?_, fun a n ha => ?_, fun f hf => ?_⟩
  · obtain ⟨f, hf, rfl⟩ := hsupp s n hn
    rw [hdrop hf (hT.ok _ _ hn), Option.getD_some, List.mem_singleton] at hp
    subst hp
    exact hT.ok _ _ hn
  · obtain ⟨s, m, m', hsm, hm⟩ := hs a (by rw [ha]; simp)
    obtain ⟨f, hf, rfl⟩ := hsupp s m hsm
    rw [hdrop hf (hT.ok _ _ hsm), Option.getD_some, List.mem_singleton] at hm
    exact ⟨f, by rw [hb]; exact valid_less hf, by rw [hb]; exact congrArg Prod.fst hm⟩
  · rw [hb] at hf ⊢
    have hval : ∀ {f' : Nat → Nat} {n : Int}, valid k (b1 ++ V.getD i 0 :: b2) f' → InI n → sumAt ((cDrop R (V.getD i 0) mb (key (b1 ++ V.getD i 0 :: b2) f', n)).getD []) (key (b1 ++ b2) f) = if ∀ u ∈ b1 ++ b2, f' u.toNat = f u.toNat then n else 0 := fun {f' n} hf' hn => by
      rw [hdrop hf' hn, Option.getD_some, sumAt_sing]
      have := hL.same hr (valid_less hf') hf
      by_cases c : ∀ u ∈ b1 ++ b2, f' u.toNat = f u.toNat
      · rw [if_pos (this.2 c), if_pos c]
      · rw [if_neg (fun h => c (this.1 h)), if_neg c]
    have hself : ∀ c, upd1 f (V.getD i 0).toNat c (V.getD i 0).toNat = c := fun c => by unfold upd1; rw [if_pos rfl]
    have hcand : ((List.range k).map fun c => key (b1 ++ V.getD i 0 :: b2) (upd1 f (V.getD i 0).toNat c)).Nodup := by
      have : ∀ (l : List Nat), l.Nodup → (∀ x ∈ l, x < k) → (l.map fun c => key (b1 ++ V.getD i 0 :: b2) (upd1 f (V.getD i 0).toNat c)).Nodup := by
        intro l
        induction l with
        | nil => intro _ _; exact List.nodup_nil
        | cons c l ih =>
          intro hn hl
          rw [List.nodup_cons] at hn
          rw [List.map_cons, List.nodup_cons]
          refine ⟨fun hm => ?_, ih hn.2 fun x hx => hl x (by simp [hx])⟩
          obtain ⟨c', hc', e⟩ := List.mem_map.1 hm
          have := (hL.same hrk (valid_more hf (hl c' (by simp [hc']))) (valid_more hf (hl c (by simp)))).1 e (V.getD i 0) (by simp)
          rw [hself, hself] at this
          exact hn.1 (this ▸ hc')
      exact this _ List.nodup_range (by simp)
    refine (hsum _ _ hcand (fun s n hn hx => ?_)).trans ?_
    · obtain ⟨f', hf', rfl⟩ := hsupp s n hn
      rw [hval hf' (hT.ok _ _ hn), if_neg]
      intro hce
      refine hx (List.mem_map.2 ⟨f' (V.getD i 0).toNat, List.mem_range.2 (hf' _ (by simp)), ?_⟩)
      refine (hL.same hrk (valid_more hf (hf' _ (by simp))) hf').2 fun u hu => ?_
      simp only [List.mem_append, List.mem_cons] at hu
      by_cases eu : u.toNat = (V.getD i 0).toNat
      · rw [eu, hself]
      · have hu' : u ∈ b1 ++ b2 := by
          rcases hu with h | h | h
          · simp [h]
          · subst h; exact absurd rfl eu
          · simp [h]
        rw [upd_self hnd f _ u hu', hce u hu']
    · rw [cval_drop hk hj hc, List.map_map]
      refine eqv.sum fun c hc' => ?_
      have hck : c < k := by simpa using hc'
      have hv' := valid_more (v := V.getD i 0) hf hck
      have hih := hT.val (upd1 f (V.getD i 0).toNat c) (by rw [hbk]; exact hv')
      rw [hbk] at hih
      refine eqv.trans ?_ hih
      simp only [Function.comp]
      cases hTk : T (key (b1 ++ V.getD i 0 :: b2) (upd1 f (V.getD i 0).toNat c)) with
      | none => exact eqv.refl _
      | some n => simp only; rw [hval hv' (hT.ok _ _ hTk), if_pos (fun u hu => upd_self hnd f c u hu)]; exact eqv.refl _
theorem node_meet (hL : Lin κ g k st mask R key) (h : NiceIs g K V B C) {i : Nat} (hi : i < K.length) (hk : K.getD i 0 = 4) {j l : Nat} (hj : j < i) (hl : l < i) (hc : C.getD i [] = [(j : Int), (l : Int)]) (hbk : B.getD j [] = B.getD i []) (hbl : B.getD l [] = B.getD i [])
    {T U : Tf κ} (hT : TJ g K V B C k st key j T) (hU : TJ g K V B C k st key l U) : ∃ T', gatF R T (cMeet R U) = some T' ∧ TJ g K V B C k st key i T' := by
  have hlU := lst_is (hU.fin.choose_spec)
  have hone : ∀ (p q : κ × Int), cMeet1 R p q = if p.1 = q.1 then [(p.1, wr (p.2 * q.2))] else [] := fun p q => by
    unfold cMeet1
    rw [hL.meet, hL.both]
    by_cases c : p.1 = q.1
    · rw [if_pos (decide_eq_true c), if_pos c]
    · rw [if_neg (by simp [c]), if_neg c]
  have hsumU : ∀ (p : κ × Int) (a : κ), sumAt ((lst U).flatMap (cMeet1 R p)) a = if p.1 = a then (match U p.1 with | some m => wr (p.2 * m) | none => 0) else 0 := fun p a => by
    rw [sumAt_flatMap, lsum hlU [p.1] (fun q => sumAt (cMeet1 R p q) a) (by simp) (fun q hq hx => by
      show sumAt (cMeet1 R p q) a = 0
      rw [hone, if_neg (fun e => hx (by simp [e]))]; rfl)]
    simp only [List.map_cons, List.map_nil, List.sum_cons, List.sum_nil, Int.add_zero]
    cases hp : U p.1 with
    | none => simp
    | some m => simp only; rw [hone, if_pos rfl, sumAt_sing]
  obtain ⟨T', hT', hfin, hs, hok, hsum⟩ := gatF_sum hL.pick hT.fin (f := cMeet R U) (fun p => (lst U).flatMap (cMeet1 R p)) (fun a n _ => rfl)
  refine ⟨T', hT', hfin, hok fun s n hn p hp => ?_, fun a n ha => ?_, fun f hf => ?_⟩
  · obtain ⟨q, hq, hp⟩ := List.mem_flatMap.1 hp
    rw [hone] at hp
    split at hp
    · rw [List.mem_singleton] at hp; subst hp; exact wr_in _
    · cases hp
  · obtain ⟨s, m, m', hsm, hm⟩ := hs a (by rw [ha]; simp)
    obtain ⟨q, hq, hp⟩ := List.mem_flatMap.1 hm
    rw [hone] at hp
    split at hp
    · rw [List.mem_singleton] at hp
      have e : a = s := congrArg Prod.fst hp
      subst e
      obtain ⟨f, hf, e⟩ := hT.supp _ _ hsm
      rw [hbk] at hf e
      exact ⟨f, hf, e⟩
    · cases hp
  · have h1 := hT.val f (by rw [hbk]; exact hf)
    have h2 := hU.val f (by rw [hbl]; exact hf)
    rw [hbk] at h1; rw [hbl] at h2
    refine (hsum _ [key (B.getD i []) f] (by simp) (fun s n hn hx => by rw [hsumU, if_neg (fun e => hx (List.mem_singleton.2 e))])).trans ?_
    rw [cval_meet hk hj hl hc]
    refine eqv.trans ?_ (h1.mul h2)
    simp only [List.map_cons, List.map_nil, List.sum_cons, List.sum_nil, Int.add_zero]
    cases hTk : T (key (B.getD i []) f) with
    | none => simp only [Option.getD_none, Int.zero_mul]; exact eqv.refl _
    | some n =>
      simp only
      rw [hsumU, if_pos rfl]
      cases hUk : U (key (B.getD i []) f) with
      | none => simp only [hUk, Option.getD_none, Int.mul_zero]; exact eqv.refl _
      | some m => simp only [hUk, Option.getD_some]; exact eqv.wr _
theorem runF_eq (hL : Lin κ g k st mask R key) (h : NiceIs g K V B C) : ∃ T, runF mask R (putT noT (key [] fun _ => 0) 1) K V B C = some T ∧ okT T ∧ eqv ((T (key [] fun _ => 0)).getD 0) (cval g K V B C k st (K.length - 1) fun _ => 0) := by
  have hm := h.2.1
  have hV : V.length = K.length := h.2.2.1
  have hB : B.length = K.length := h.2.2.2.1
  have hC : C.length = K.length := h.2.2.2.2.1
  have hnil : Rises [] (g.length : Int) := fun k hk => by simp at hk
  obtain ⟨o, ho, hlen, hAll⟩ := lp_ex (step := fun s => runL mask R (putT noT (key [] fun _ => 0) 1) K V B C s.1 s.2) (fun i (ts : List (Tf κ)) => (ts, (i : Int))) K.length
    (fun i ts => ts.length = i ∧ ∀ j, j < i → ∃ T, ts[j]? = some T ∧ TJ g K V B C k st key j T) (fun o => o.length = K.length ∧ ∀ j, j < K.length → ∃ T, o[j]? = some T ∧ TJ g K V B C k st key j T) (fun i ts hi hI => by
      obtain ⟨hlen, hAll⟩ := hI
      have node : ∃ T', nodeT mask R (putT noT (key [] fun _ => 0) 1) B ts (i : Int) (K.getD i 0) (V.getD i 0) (C.getD i []) = some T' ∧ TJ g K V B C k st key i T' := by
        unfold nodeT
        have tsx : ∀ {j : Nat} {T : Tf κ} {β : Type} (q : Tf κ → Option β), ts[j]? = some T → idx ts (j : Int) q = q T := fun q h => idx_of (by omega) (by rw [Int.toNat_natCast]; exact h)
        cases h.node hi with
        | leaf hk hb hc =>
          rw [if_pos hk]
          refine ⟨_, rfl, put_fin fin_no _ _, fun a n ha => ?_, fun a n ha => ?_, fun f hf => ?_⟩
          · unfold putT at ha; split at ha
            · obtain rfl := Option.some.inj ha; decide
            · cases ha
          · unfold putT at ha; split at ha
            · rename_i e; exact ⟨fun _ => 0, by rw [hb]; exact (fun v hv => nomatch hv), by rw [hb]; exact e⟩
            · cases ha
          · rw [hb] at hf ⊢
            have e : key [] f = key [] fun _ => 0 := (hL.same hnil hf (fun v hv => by cases hv)).2 (fun v hv => by cases hv)
            rw [e, cval_leaf hk]
            unfold putT; rw [if_pos rfl]; exact eqv.refl _
        | add hk j hj hc hv b1 b2 hb hbk =>
          obtain ⟨T, hTj, hT⟩ := hAll j hj
          obtain ⟨mb, hmb⟩ := hL.msk (h.bag (i := j) (by omega)).2
          obtain ⟨T', h1, h2⟩ := node_add hL h hi hk hj hc hb hbk hT hmb
          refine ⟨T', ?_, h2⟩
          rw [if_neg (by omega), if_pos hk, hc]
          show idx ts (j : Int) _ = _
          rw [tsx _ hTj, getL_idx (by omega), cal_of hmb, h1]
        | drop hk j hj hc hv b1 b2 hbk hb =>
          obtain ⟨T, hTj, hT⟩ := hAll j hj
          obtain ⟨mb, hmb⟩ := hL.msk (h.bag hi).2
          obtain ⟨T', h1, h2⟩ := node_drop hL h hi hk hj hc hbk hb hT hmb
          refine ⟨T', ?_, h2⟩
          rw [if_neg (by omega), if_neg (by omega), if_pos hk, hc]
          show idx ts (j : Int) _ = _
          rw [tsx _ hTj, getL_idx (by omega), cal_of hmb, h1]
        | meet hk j l hj hl hc hbk hbl =>
          obtain ⟨T, hTj, hT⟩ := hAll j hj
          obtain ⟨U, hUl, hU⟩ := hAll l hl
          obtain ⟨T', h1, h2⟩ := node_meet hL h hi hk hj hl hc hbk hbl hT hU
          refine ⟨T', ?_, h2⟩
          rw [if_neg (by omega), if_neg (by omega), if_neg (by omega), if_pos hk, hc]
          show idx ts (j : Int) _ = _
          rw [tsx _ hTj]
          show idx ts (l : Int) _ = _
          rw [tsx _ hUl, h1]
      obtain ⟨T', hn, hTJ⟩ := node
      refine ⟨ts ++ [T'], ?_, by rw [List.length_append, hlen]; rfl, fun j hj => ?_⟩
      · simp only [runL]
        rw [if_pos (by omega), getD_idx hi, getD_idx (by omega), getL_idx (by omega), cal_of hn, app1_s (by omega), ck_of (inI (by omega) (by omega))]; rfl
      · by_cases e : j < i
        · obtain ⟨T, h1, h2⟩ := hAll j e
          exact ⟨T, by rw [List.getElem?_append_left (by omega)]; exact h1, h2⟩
        · have e2 : j = i := by omega
          subst e2
          exact ⟨T', by rw [← hlen, List.getElem?_append_right (Nat.le_refl _)]; simp, hTJ⟩)
    (fun ts hI => ⟨ts, by simp only [runL]; rw [if_neg (by omega)], hI⟩) K.length 0 [] (by omega) ⟨rfl, fun j hj => by omega⟩
  rw [show ((0 : Nat) : Int) = 0 from rfl] at ho
  obtain ⟨T, hT, hJ⟩ := hAll (K.length - 1) (by omega)
  refine ⟨T, ?_, hJ.ok, ?_⟩
  · unfold runF
    rw [cal_of ho, hlen, ck_of (inI (by omega) (by omega)), show (K.length : Int) - 1 = ((K.length - 1 : Nat) : Int) by omega, idx_of (by omega) (by rw [Int.toNat_natCast]; exact hT)]
  · have := hJ.val (fun _ => 0) (by rw [h.last]; intro v hv; cases hv)
    rwa [h.last] at this
end
end Go.Proofs.YtnebbhginakaiaaDoor

/- Sets as keys: the rule of stable sets counts. -/
namespace Go.Proofs.YtnebbhginakaiaaDoor
section
variable {g : List (List Int)}
theorem row_of (hg : GOk g) {v : Int} (h0 : 0 ≤ v) (h1 : v < g.length) : g.getD v.toNat [] = g[v.toNat]'(by omega) := by rw [List.getD_eq_getElem?_getD, List.getElem?_eq_getElem]; rfl
theorem near_upd (hg : GOk g) {b1 b2 : List Int} {f : Nat → Nat} {v : Int} (h0 : 0 ≤ v) (h1 : v < g.length) (hn : ∀ u ∈ b1 ++ b2, u.toNat ≠ v.toNat) (c : Nat) : nearC g (b1 ++ v :: b2) (upd1 f v.toNat c) v c ↔ ∃ u ∈ b1 ++ b2, u ∈ g.getD v.toNat [] ∧ f u.toNat = c := by
  have hloop : v ∉ g.getD v.toNat [] := by
    rw [row_of hg h0 h1]
    have := (hg.rows v.toNat (by omega)).2
    rwa [show ((v.toNat : Nat) : Int) = v by omega] at this
  constructor
  · rintro ⟨u, hu, h2, h3⟩
    have hu' : u ∈ b1 ++ b2 := by
      simp only [List.mem_append, List.mem_cons] at hu ⊢
      rcases hu with h | h | h
      · exact .inl h
      · subst h; exact absurd h2 hloop
      · exact .inr h
    exact ⟨u, hu', h2, by rw [← upd_self hn f c u hu']; exact h3⟩
  · rintro ⟨u, hu, h2, h3⟩
    refine ⟨u, ?_, h2, by rw [upd_self hn f c u hu]; exact h3⟩
    simp only [List.mem_append, List.mem_cons] at hu ⊢
    exact hu.imp id .inr
theorem rises_nodup {n : Nat} (hn : n ≤ 16) {b : List Int} (hb : Rises b n) : b.Pairwise (fun u v => u.toNat ≠ v.toNat) :=
  List.Pairwise.imp_of_mem (fun {u v} hu hv huv => by have := hb.mem hu; have := hb.mem hv; omega) (hb.sorted hn)
end
end Go.Proofs.YtnebbhginakaiaaDoor

/- Colours as keys: the rule of colourings counts. -/
namespace Go.Proofs.YtnebbhginakaiaaDoor
def keyN (b : List Int) (f : Nat → Nat) (j : Nat) : Int := if (j : Int) ∈ b then ((min (f j) 100 : Nat) : Int) + 1 else 0
def keyC (b : List Int) (f : Nat → Nat) : Cl := ⟨(List.range 16).map (keyN b f), by simp, fun x hx => by
  obtain ⟨j, _, rfl⟩ := List.mem_map.1 hx
  unfold keyN
  split <;> omega⟩
theorem keyC_get (b : List Int) (f : Nat → Nat) {j : Nat} (hj : j < 16) : (keyC b f).1[j]? = some (keyN b f j) := by
  show ((List.range 16).map (keyN b f))[j]? = _
  rw [List.getElem?_map, List.getElem?_range hj]; rfl
theorem keyC_ext {b b' : List Int} {f f' : Nat → Nat} (h : ∀ j, j < 16 → keyN b f j = keyN b' f' j) : keyC b f = keyC b' f' := Subtype.ext (List.map_congr_left fun j hj => h j (by simpa using hj))
theorem keyC_same {b : List Int} {n k : Nat} (hn : n ≤ 16) (hk : k ≤ 4) (hb : Rises b n) {f f' : Nat → Nat} (hf : valid k b f) (hf' : valid k b f') : keyC b f = keyC b f' ↔ ∀ v ∈ b, f v.toNat = f' v.toNat := by
  constructor
  · intro h v hv
    have hm := hb.mem hv
    have h1 := congrArg (fun s : Cl => s.1[v.toNat]?) h
    simp only [keyC_get b f (show v.toNat < 16 by omega), keyC_get b f' (show v.toNat < 16 by omega)] at h1
    have h2 := Option.some.inj h1
    unfold keyN at h2
    have e : ((v.toNat : Nat) : Int) ∈ b := by rw [show ((v.toNat : Nat) : Int) = v by omega]; exact hv
    rw [if_pos e, if_pos e] at h2
    have := hf v hv; have := hf' v hv
    omega
  · intro h
    refine keyC_ext fun j hj => ?_
    unfold keyN
    by_cases e : (j : Int) ∈ b
    · rw [if_pos e, if_pos e]
      have := h _ e
      rw [Int.toNat_natCast] at this
      rw [this]
    · rw [if_neg e, if_neg e]
section
variable {g : List (List Int)} {k : Nat}
theorem setC_is {s : Cl} {v c : Int} (h : (0 ≤ v ∧ v < 16) ∧ -128 ≤ c ∧ c ≤ 127) {t : Cl} (ht : t.1 = s.1.set v.toNat c) : setC s v c = some t := by
  unfold setC
  rw [dif_pos h]
  exact congrArg some (Subtype.ext ht.symm)
theorem keyC_more {b1 b2 : List Int} {v : Int} (h0 : 0 ≤ v ∧ v < 16) (hn : ∀ u ∈ b1 ++ b2, u.toNat ≠ v.toNat) (f : Nat → Nat) {c : Nat} (hc : c < 4) : setC (keyC (b1 ++ b2) f) v ((c : Int) + 1) = some (keyC (b1 ++ v :: b2) (upd1 f v.toNat c)) := by
  refine setC_is ⟨h0, by omega, by omega⟩ ?_
  refine List.ext_getElem? fun j => ?_
  by_cases hj : j < 16
  · rw [keyC_get _ _ hj, List.getElem?_set]
    unfold keyN
    have hmem : (j : Int) ∈ b1 ++ v :: b2 ↔ (j : Int) = v ∨ (j : Int) ∈ b1 ++ b2 := by
      simp only [List.mem_append, List.mem_cons]
      exact ⟨fun h => by rcases h with h | h | h; exact .inr (.inl h); exact .inl h; exact .inr (.inr h), fun h => by rcases h with h | h | h; exact .inr (.inl h); exact .inl h; exact .inr (.inr h)⟩
    by_cases e : v.toNat = j
    · rw [if_pos e, if_pos (hmem.2 (.inl (by omega))), if_pos (show v.toNat < (keyC (b1 ++ b2) f).1.length by rw [(keyC (b1 ++ b2) f).2.1]; omega), ← e, show upd1 f v.toNat c v.toNat = c by unfold upd1; rw [if_pos rfl]]
      congr 2; omega
    · rw [if_neg e, keyC_get _ _ hj]
      unfold keyN
      by_cases e2 : (j : Int) ∈ b1 ++ b2
      · rw [if_pos e2, if_pos (hmem.2 (.inr e2)), show upd1 f v.toNat c j = f j by unfold upd1; rw [if_neg (fun h => e h.symm)]]
      · rw [if_neg e2, if_neg (fun h => (hmem.1 h).elim (fun h => e (by omega)) e2)]
  · rw [List.getElem?_eq_none (by rw [(keyC _ _).2.1]; omega), List.getElem?_eq_none (by rw [List.length_set, (keyC _ _).2.1]; omega)]
theorem keyC_less {b1 b2 : List Int} {v : Int} (h0 : 0 ≤ v ∧ v < 16) (hn : ∀ u ∈ b1 ++ b2, u.toNat ≠ v.toNat) (hpos : ∀ u ∈ b1 ++ b2, 0 ≤ u) (f : Nat → Nat) : setC (keyC (b1 ++ v :: b2) f) v 0 = some (keyC (b1 ++ b2) f) := by
  refine setC_is ⟨h0, by omega, by omega⟩ ?_
  refine List.ext_getElem? fun j => ?_
  by_cases hj : j < 16
  · rw [keyC_get _ _ hj, List.getElem?_set]
    unfold keyN
    by_cases e : v.toNat = j
    · rw [if_pos e, if_neg (fun h => hn _ h (by rw [Int.toNat_natCast]; exact e.symm)), if_pos (show v.toNat < (keyC (b1 ++ v :: b2) f).1.length by rw [(keyC _ _).2.1]; omega)]
    · rw [if_neg e, keyC_get _ _ hj]
      unfold keyN
      by_cases e2 : (j : Int) ∈ b1 ++ b2
      · rw [if_pos e2, if_pos (by simp only [List.mem_append, List.mem_cons] at e2 ⊢; exact e2.imp id .inr)]
      · rw [if_neg e2, if_neg (fun h => by
          simp only [List.mem_append, List.mem_cons] at h e2
          rcases h with h | h | h
          · exact e2 (.inl h)
          · exact e (by omega)
          · exact e2 (.inr h))]
  · rw [List.getElem?_eq_none (by rw [(keyC _ _).2.1]; omega), List.getElem?_eq_none (by rw [List.length_set, (keyC _ _).2.1]; omega)]
theorem clGo_eq {a : List (BitVec 32)} {s : Cl} {v : Int} {m av : BitVec 32} {l : List Int} {K : Nat → Cl} {p : Nat → Bool} (ha : ∀ {β : Type} (q : BitVec 32 → Option β), idx a v q = q av) (hl : F_impl_vset_list (av &&& m) = some l)
    (hp : ∀ c, c < k → F_slices_ContainsFunc_int l (clHas s ((c : Int) + 1)) = some (!p c)) (hK : ∀ c, c < k → setC s v ((c : Int) + 1) = some (K c)) :
    ∀ (n j : Nat) (out : List Cl), j + n = k → clGo a s v m n ((j : Int) + 1) out = some (out ++ (((List.range k).drop j).filter p).map K)
  | 0, j, out, h => by
    rw [List.drop_of_length_le (by simp; omega)]
    show some out = _
    simp
  | n + 1, j, out, h => by
    have hj : j < k := by omega
    have e : (List.range k).drop j = j :: (List.range k).drop (j + 1) := by
      rw [List.drop_eq_getElem_cons (by simpa using hj)]; simp
    show (idx a v fun av => cal (F_impl_vset_list (av &&& m)) fun l => cal (F_slices_ContainsFunc_int l (clHas s ((j : Int) + 1))) fun r => if ¬ (r = true) then cal (setC s v ((j : Int) + 1)) fun t => clGo a s v m n ((j : Int) + 1 + 1) (out ++ [t]) else clGo a s v m n ((j : Int) + 1 + 1) out) = _
    rw [ha, cal_of hl, cal_of (hp j hj), show (j : Int) + 1 + 1 = ((j + 1 : Nat) : Int) + 1 by omega]
    cases c : p j with
    | true =>
      rw [if_pos (by simp), cal_of (hK j hj), clGo_eq ha hl hp hK n (j + 1) _ (by omega), e, List.filter_cons_of_pos c]
      simp
    | false =>
      rw [if_neg (by simp), clGo_eq ha hl hp hK n (j + 1) _ (by omega), e, List.filter_cons_of_neg (by simp [c])]
open Classical in
theorem col_lin (hg : GOk g) (hk : k ≤ 4) : Lin Cl g k false F_impl_maskOf (clRu (bvs (nb g)) (k : Int)) keyC where
  same {b f f'} hb hf hf' := keyC_same hg.n16 hk hb hf hf'
  msk {b} hb := ⟨_, maskOf_eq (fun v hv => by have := hb.mem hv; have := hg.n16; omega) (by have := hb.len16 hg.n16; omega)⟩
  add {b1 b2 v f mb} hr hrk hmb hf := by
    have h16 := hg.n16
    have hv := hr.mem (x := v) (by simp)
    have hnd := nodup_split (rises_nodup h16 hr)
    have hrow : (nb g)[v.toNat]'(by rw [nb_len]; omega) = mk (g.getD v.toNat []) := by rw [row_of hg hv.1 hv.2]; simp [nb]
    have hgr := hg.rows v.toNat (by omega)
    have e0 : ((v.toNat : Nat) : Int) = v := by omega
    have hmbe : mb = BitVec.ofNat 32 (mk (b1 ++ b2)) := by
      have := maskOf_eq (s := b1 ++ b2) (fun x hx => by have := hrk.mem hx; omega) (by have := hrk.len16 h16; omega)
      rw [this] at hmb; exact (Option.some.inj hmb).symm
    have hlt : mk (b1 ++ b2) < 2 ^ 16 := Nat.lt_of_lt_of_le hrk.lt (Nat.pow_le_pow_right (by decide) h16)
    have hlt2 : mk (g.getD v.toNat []) &&& mk (b1 ++ b2) < 2 ^ 16 := Nat.lt_of_le_of_lt Nat.and_le_right hlt
    show (if 0 ≤ (k : Int) ∧ (k : Int) ≤ 4 then clGo (bvs (nb g)) (keyC (b1 ++ b2) f) v mb (k : Int).toNat 1 [] else none) = _
    rw [if_pos ⟨by omega, by omega⟩, Int.toNat_natCast]
    have hmem : ∀ {w : Nat}, w ∈ els (mk (g.getD v.toNat []) &&& mk (b1 ++ b2)) ↔ (w : Int) ∈ g.getD v.toNat [] ∧ (w : Int) ∈ b1 ++ b2 := fun {w} => by
      rw [mem_els hlt2, Nat.testBit_and, Bool.and_eq_true, row_of hg hv.1 hv.2, hgr.1.mem_mk, hrk.mem_mk]
    have := clGo_eq (k := k) (a := bvs (nb g)) (s := keyC (b1 ++ b2) f) (v := v) (m := mb) (av := BitVec.ofNat 32 (mk (g.getD v.toNat []))) (l := ints (els (mk (g.getD v.toNat []) &&& mk (b1 ++ b2)))) (K := fun c => keyC (b1 ++ v :: b2) (upd1 f v.toNat c))
      (p := fun c => decide ((false = true ∧ c = 0) ∨ ¬ nearC g (b1 ++ v :: b2) (upd1 f v.toNat c) v c))
      (fun q => by rw [show idx (bvs (nb g)) v q = idx (bvs (nb g)) ((v.toNat : Nat) : Int) q by rw [e0], idx_bvs (by rw [nb_len]; omega), hrow])
      (by rw [hmbe, bv_and]; exact list_eq hlt2)
      (fun c hc => by
        rw [hasF_int _ _ (fun u => decide (keyN (b1 ++ b2) f u.toNat = (c : Int) + 1)) (by simp only [ints, List.length_map]; have := els_len_le (mk (g.getD v.toNat []) &&& mk (b1 ++ b2)); omega) (fun u hu => by
          obtain ⟨w, hw, rfl⟩ := List.mem_map.1 hu
          have hw16 := els_lt hw
          unfold clHas
          rw [idx_of (by omega) (by rw [Int.toNat_natCast]; exact keyC_get _ _ hw16), Int.toNat_natCast])]
        congr 1
        have hnear := near_upd hg (f := f) hv.1 hv.2 hnd c
        have hiff : (ints (els (mk (g.getD v.toNat []) &&& mk (b1 ++ b2)))).any (fun u => decide (keyN (b1 ++ b2) f u.toNat = (c : Int) + 1)) = true ↔ nearC g (b1 ++ v :: b2) (upd1 f v.toNat c) v c := by
          rw [hnear, List.any_eq_true]
          constructor
          · rintro ⟨u, hu, h1⟩
            obtain ⟨w, hw, rfl⟩ := List.mem_map.1 hu
            obtain ⟨hw1, hw2⟩ := hmem.1 hw
            have h1 := of_decide_eq_true h1
            rw [Int.toNat_natCast] at h1
            unfold keyN at h1
            rw [if_pos hw2] at h1
            have hfw := hf _ hw2
            rw [Int.toNat_natCast] at hfw
            exact ⟨(w : Int), hw2, hw1, by rw [Int.toNat_natCast]; omega⟩
          · rintro ⟨u, hu, h2, h3⟩
            have hu0 := hrk.mem hu
            have eu : ((u.toNat : Nat) : Int) = u := by omega
            refine ⟨u, List.mem_map.2 ⟨u.toNat, hmem.2 ⟨by rw [eu]; exact h2, by rw [eu]; exact hu⟩, eu⟩, decide_eq_true ?_⟩
            unfold keyN
            rw [if_pos (by rw [eu]; exact hu), h3]; omega
        by_cases c1 : nearC g (b1 ++ v :: b2) (upd1 f v.toNat c) v c
        · rw [hiff.2 c1, decide_eq_false (by rintro (h | h); cases h.1; exact h c1)]; rfl
        · rw [decide_eq_true (.inr c1)]
          cases q : (ints (els (mk (g.getD v.toNat []) &&& mk (b1 ++ b2)))).any (fun u => decide (keyN (b1 ++ b2) f u.toNat = (c : Int) + 1)) with
          | false => rfl
          | true => exact absurd (hiff.1 q) c1)
      (fun c hc => keyC_more ⟨hv.1, by omega⟩ hnd f (by omega)) k 0 [] (by omega)
    rw [show ((0 : Nat) : Int) + 1 = 1 from rfl] at this
    rw [this]
    simp only [List.nil_append, List.drop_zero]
    rfl
  drop {b1 b2 v f mb n} hr hrk hmb hf hn := by
    have h16 := hg.n16
    have hv := hr.mem (x := v) (by simp)
    have hnd := nodup_split (rises_nodup h16 hr)
    show (cal (setC (keyC (b1 ++ v :: b2) f) v 0) fun t => some (putT noT t n)) = _
    rw [cal_of (keyC_less ⟨hv.1, by omega⟩ hnd (fun u hu => (hrk.mem hu).1) f)]
  meet s t := rfl
  both x y := rfl
  pick := rfl
end
end Go.Proofs.YtnebbhginakaiaaDoor

/- Laws whose arguments hold a nice tree: its size, its copies. -/
namespace Go.Proofs.YtnebbhginakaiaaDoor
abbrev NiceD := List Int × List Int × List (List Int) × List (List Int)
structure NiceLen (d : NiceD) : Prop where
  l0 : d.1.length ≤ 1048576
  l1 : d.2.1.length ≤ 1048576
  l2 : d.2.2.1.length ≤ 1048576
  l3 : d.2.2.2.length ≤ 1048576
  r2 : ∀ x ∈ d.2.2.1, x.length ≤ 1048576
  r3 : ∀ x ∈ d.2.2.2, x.length ≤ 1048576
theorem szNice_ex (d : NiceD) (m0 : Int) (h0 : 0 ≤ m0) (h1 : m0 ≤ 1048576) (hd : Sz.ok d) : ∃ m, F_laws_szNice d.1 d.2.1 d.2.2.1 d.2.2.2 m0 = some m ∧ (m < 0 ∨ (0 ≤ m ∧ m ≤ m0 ∧ NiceLen d ∧ True)) := by
  unfold F_laws_szNice
  rw [cal_of (szInt64S_eq d.1 m0 (by omega) (by omega) hd.1)]
  obtain ⟨m1, hm1⟩ : ∃ m1, less m0 d.1.length = m1 := ⟨_, rfl⟩
  rw [hm1]
  by_cases c1 : m1 < 0
  · rw [if_pos c1]; exact ⟨_, rfl, .inl (by decide)⟩
  rw [if_neg c1]
  have b1 : m1 ≤ m0 ∧ (d.1.length : Int) ≤ 1048576 := by unfold less at hm1; split at hm1 <;> omega
  rw [cal_of (szInt64S_eq d.2.1 m1 (by omega) (by omega) hd.2.1)]
  obtain ⟨m2, hm2⟩ : ∃ m2, less m1 d.2.1.length = m2 := ⟨_, rfl⟩
  rw [hm2]
  by_cases c2 : m2 < 0
  · rw [if_pos c2]; exact ⟨_, rfl, .inl (by decide)⟩
  rw [if_neg c2]
  have b2 : m2 ≤ m1 ∧ (d.2.1.length : Int) ≤ 1048576 := by unfold less at hm2; split at hm2 <;> omega
  obtain ⟨m3, hm3, h3⟩ := szInt64SS_eq d.2.2.1 m2 (by omega) (by omega) hd.2.2.1
  rw [cal_of hm3]
  rcases h3 with h3 | ⟨b3, e3, l3, r3⟩
  · rw [if_pos h3]; exact ⟨_, rfl, .inl (by decide)⟩
  rw [if_neg (by omega)]
  obtain ⟨m4, hm4, h4⟩ := szInt64SS_eq d.2.2.2 m3 (by omega) (by omega) hd.2.2.2
  rw [cal_of hm4]
  rcases h4 with h4 | ⟨b4, e4, l4, r4⟩
  · rw [if_pos h4]; exact ⟨_, rfl, .inl (by decide)⟩
  rw [if_neg (by omega)]
  exact ⟨_, rfl, .inr ⟨by omega, by omega, ⟨by omega, by omega, by omega, by omega, fun x hx => by have := r3 x hx; omega, fun x hx => by have := r4 x hx; omega⟩, trivial⟩⟩
theorem toNice_eq (d : NiceD) (h : NiceLen d) : F_laws_toNice d.1 d.2.1 d.2.2.1 d.2.2.2 = some (d.1, d.2.1, d.2.2.1, d.2.2.2) := by
  obtain ⟨l0, l1, l2, l3, r2, r3⟩ := h
  unfold F_laws_toNice
  rw [cal_of (toInt64S_eq d.1 (by omega)), cal_of (toInt64S_eq d.2.1 (by omega)), cal_of (toInt64SS_eq d.2.2.1 (by omega) (fun x hx => by have := r2 x hx; omega)), cal_of (toInt64SS_eq d.2.2.2 (by omega) (fun x hx => by have := r3 x hx; omega))]
theorem eqNice_self (d : NiceD) (h : NiceLen d) : F_laws_eqNice d.1 d.2.1 d.2.2.1 d.2.2.2 d.1 d.2.1 d.2.2.1 d.2.2.2 = some true := by
  obtain ⟨l0, l1, l2, l3, r2, r3⟩ := h
  unfold F_laws_eqNice
  rw [cal_of (eqInt64S_eq d.1 d.1 (by omega)), if_neg (by simp), cal_of (eqInt64S_eq d.2.1 d.2.1 (by omega)), if_neg (by simp), cal_of (eqInt64SS_eq d.2.2.1 d.2.2.1 (by omega) (fun x hx => by have := r2 x hx; omega)), if_neg (by simp), cal_of (eqInt64SS_eq d.2.2.2 d.2.2.2 (by omega) (fun x hx => by have := r3 x hx; omega)), if_neg (by simp)]
end Go.Proofs.YtnebbhginakaiaaDoor

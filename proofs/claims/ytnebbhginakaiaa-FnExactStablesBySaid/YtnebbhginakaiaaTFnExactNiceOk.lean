/- FnExactNiceOk: the plain law. -/
import Derived.Test.YtnebbhginakaiaaNice
import Derived.Test.YtnebbhginakaiaaLawGraph
namespace Go.Proofs.Ytnebbhginakaiaa
def kidsTo (C : List (List Int)) (i : Nat) : List Int := (C.take i).flatten
theorem kidsTo_succ {C : List (List Int)} {i : Nat} (h : i < C.length) : kidsTo C (i + 1) = kidsTo C i ++ C[i] := by
  unfold kidsTo; rw [take_succ_of h, List.flatten_append]; simp
theorem mem_kidsTo {C : List (List Int)} {i : Nat} {x : Int} (h : x ∈ kidsTo C i) : ∃ j, j < i ∧ x ∈ C.getD j [] := by
  unfold kidsTo at h
  rw [List.mem_flatten] at h
  obtain ⟨c, hc, hx⟩ := h
  rw [List.mem_take_iff_getElem] at hc
  obtain ⟨j, hj, rfl⟩ := hc
  exact ⟨j, by omega, by rw [List.getD_eq_getElem?_getD, List.getElem?_eq_getElem (by omega)]; exact hx⟩
theorem inc_loop {O : Type} {step : List Int × Int → Option ((List Int × Int) ⊕ O)} (x l : List Int) (m : Nat) {o : O} (hl : ∀ y ∈ l, 0 ≤ y ∧ y < m) (hx : ∀ y ∈ x, 0 ≤ y ∧ y < m) (hn : l.length + x.length ≤ 1048576)
    (h : ∀ (k : Nat) (hk : k < x.length) (t : List Int), step (t, (k : Int)) = idx t x[k] (fun y => ck (y + 1) (fun _ => idx t x[k] (fun _ => ck ((k : Int) + 1) (fun _ => some (.inl (t.set (x[k] : Int).toNat (y + 1), (k : Int) + 1)))))))
    (he : step (incAll (l ++ x) (List.replicate m 0), (x.length : Int)) = some (.inr o)) : lp step (incAll l (List.replicate m 0), 0) = some o := by
  refine lp_upto (fun j => (incAll (l ++ x.take j) (List.replicate m 0), (j : Int))) x.length (by simp) (fun k hk => ?_) (by rw [List.take_length]; exact he)
  have hall : ∀ y ∈ l ++ x.take k, 0 ≤ y ∧ y < m := fun y hy => by
    rcases List.mem_append.1 hy with e | e
    · exact hl y e
    · exact hx y (List.mem_of_mem_take e)
  have hxk := hx _ (List.getElem_mem hk)
  have hc : (l ++ x.take k).count x[k] ≤ (l ++ x.take k).length := List.count_le_length
  rw [List.length_append, List.length_take] at hc
  rw [h k hk, inc_idx hall hxk, ck_of (inI (by omega) (by omega)), inc_idx hall hxk, ck_of (inI (by omega) (by omega)), inc_set hall hxk, take_succ_of hk, List.append_assoc]; rfl
def NodesOk (n m : Nat) (K V : List Int) (B C : List (List Int)) : Prop := ∀ i, i < m → BagAt n (B.getD i []) ∧ NodeAt K V B C i
theorem NodesOk.drop {n m : Nat} {K V : List Int} {B C : List (List Int)} (h : NodesOk n m K V B C) (hn : n ≤ 16) {i : Nat} (hi : i < m) (hk : K.getD i 0 = 3) : (0 ≤ V.getD i 0 ∧ V.getD i 0 < n) ∧ ∃ k, k < i ∧ (mk (B.getD k [])).testBit (V.getD i 0).toNat = true := by
  obtain ⟨h1, h2, h3⟩ := h i hi
  rcases h3 with h3 | h3 | h3 | ⟨_, k, hc, hm⟩
  · omega
  · omega
  · omega
  · have hki : k < i := by have := h2 k (by rw [hc]; simp); omega
    have := (less_iff hn (h1.2.lt) ((h k (by omega)).1.2.lt)).1 hm
    exact ⟨this.1, k, hki, this.2.1⟩
theorem mem_drops {K V : List Int} {i : Nat} {x : Int} : x ∈ dropsTo K V i ↔ ∃ j, j < i ∧ K.getD j 0 = 3 ∧ V.getD j 0 = x := by
  unfold dropsTo
  rw [List.mem_map]
  constructor
  · rintro ⟨j, hj, rfl⟩
    rw [List.mem_filter, List.mem_range, decide_eq_true_iff] at hj
    exact ⟨j, hj.1, hj.2, rfl⟩
  · rintro ⟨j, h1, h2, rfl⟩
    exact ⟨j, by rw [List.mem_filter, List.mem_range, decide_eq_true_iff]; exact ⟨h1, h2⟩, rfl⟩
theorem NodesOk.drops {n m : Nat} {K V : List Int} {B C : List (List Int)} (h : NodesOk n m K V B C) (hn : n ≤ 16) {i : Nat} (hi : i ≤ m) : ∀ x ∈ dropsTo K V i, 0 ≤ x ∧ x < n := by
  intro x hx
  obtain ⟨j, h1, h2, rfl⟩ := mem_drops.1 hx
  exact (h.drop hn (by omega) h2).1
theorem NodesOk.kids {n m : Nat} {K V : List Int} {B C : List (List Int)} (h : NodesOk n m K V B C) {i : Nat} (hi : i ≤ m) : (∀ x ∈ kidsTo C i, 0 ≤ x ∧ x < m) := by
  intro x hx
  obtain ⟨j, h1, h2⟩ := mem_kidsTo hx
  have := (h j (by omega)).2.1 x h2
  omega
theorem kidsTo_len {n m : Nat} {K V : List Int} {B C : List (List Int)} (h : NodesOk n m K V B C) (hC : C.length = m) : ∀ i, i ≤ m → (kidsTo C i).length ≤ 2 * i := by
  intro i
  induction i with
  | zero => intro _; simp [kidsTo]
  | succ i ih =>
    intro hi
    have h1 := (h i (by omega)).2.kids
    rw [List.getD_eq_getElem?_getD, List.getElem?_eq_getElem (by omega)] at h1
    rw [kidsTo_succ (by omega), List.length_append]
    have := ih (by omega)
    simp only [Option.getD_some] at h1
    omega
def WholeOk (g : List (List Int)) (m : Nat) (K V : List Int) (B C : List (List Int)) : Prop :=
  mk (B.getD (m - 1) []) = 0 ∧ (∀ v, v + 1 < m → (kidsTo C m).count (v : Int) = 1) ∧ (∀ v, v < g.length → (dropsTo K V m).count (v : Int) = 1) ∧ Covers (nb g) (B.map mk)
def NiceIs (g : List (List Int)) (K V : List Int) (B C : List (List Int)) : Prop :=
  GOk g ∧ (1 ≤ K.length ∧ K.length ≤ 200) ∧ V.length = K.length ∧ B.length = K.length ∧ C.length = K.length ∧ NodesOk g.length K.length K V B C ∧ WholeOk g K.length K V B C
section
variable {g : List (List Int)} {K V : List Int} {B C : List (List Int)} {m : Nat}
open Classical in
theorem l29Tree_eq (h : NodesOk g.length m K V B C) (hm : m ≤ 200) (h1 : 1 ≤ m) (hK : K.length = m) (hC : C.length = m) : F_spec_l29Tree K V B C = some (decide (∀ v, v + 1 < m → (kidsTo C m).count (v : Int) = 1)) := by
  unfold F_spec_l29Tree
  have hlen := kidsTo_len h hC
  have key : lp (fun s => F_spec_l29Tree_l1 C s.1 s.2) (List.replicate m (0 : Int), 0) = some (.inl (incAll (kidsTo C m) (List.replicate m 0))) := by
    refine lp_upto (fun i => (incAll (kidsTo C i) (List.replicate m 0), (i : Int))) m (by simp [kidsTo, incAll]) (fun i hi => ?_) ?_
    · simp only [F_spec_l29Tree_l1]
      have hiC : i < C.length := by omega
      have l1 := hlen i (by omega)
      have l2 := hlen (i + 1) (by omega)
      rw [kidsTo_succ hiC, List.length_append] at l2
      have hkk := h.kids (i := i + 1) (by omega)
      rw [kidsTo_succ hiC] at hkk
      have inner : lp (fun s => F_spec_l29Tree_l2 C (i : Int) s.1 s.2) (incAll (kidsTo C i) (List.replicate m 0), 0) = some (.inl (incAll (kidsTo C i ++ C[i]) (List.replicate m 0))) := by
        refine inc_loop C[i] (kidsTo C i) m (fun y hy => hkk y (List.mem_append_left _ hy)) (fun y hy => hkk y (List.mem_append_right _ hy)) (by omega) (fun k hk t => ?_) ?_
        · simp only [F_spec_l29Tree_l2]
          rw [idx_nat hiC, if_pos (by omega), idx_nat hiC, idx_nat hk]
        · simp only [F_spec_l29Tree_l2]
          rw [idx_nat hiC, if_neg (by omega)]
      rw [if_pos (by omega), bnd_l inner]
      unfold F_spec_l29Tree_k3
      rw [ck_of (inI (by omega) (by omega)), kidsTo_succ hiC]; rfl
    · simp only [F_spec_l29Tree_l1]
      rw [if_neg (by omega)]
  rw [hK, mkS_of (by omega) (by unfold lim; omega), Int.toNat_natCast, bnd_l key]
  unfold F_spec_l29Tree_k4
  have hin := h.kids (Nat.le_refl m)
  have hle : (incAll (kidsTo C m) (List.replicate m (0 : Int))).length = m := by rw [incAll_len, List.length_replicate]
  have k2 := lp_allC (step := fun s => F_spec_l29Tree_l5 (incAll (kidsTo C m) (List.replicate m 0)) s) (fun k => (k : Int)) (m - 1) (fun v => (kidsTo C m).count (v : Int) = 1) (∀ v, v + 1 < m → (kidsTo C m).count (v : Int) = 1) (oT := .inl ()) (oF := .inr false)
    ⟨fun h v hv => h v (by omega), fun h v hv => h v (by omega)⟩ ?_ ?_ ?_
  · rw [show ((0 : Nat) : Int) = 0 from rfl] at k2
    rw [k2, bnd_if]
    unfold F_spec_l29Tree_k6
    split
    · rename_i hq; rw [decide_eq_true hq]
    · rename_i hq; rw [decide_eq_false hq]
  · intro v hv _ hp
    simp only [F_spec_l29Tree_l5]
    rw [ck_of (inI (by omega) (by omega)), hle, if_pos (by omega), inc_idx hin (by omega), hp, if_neg (by decide), ck_of (inI (by omega) (by omega))]; rfl
  · intro v hv _ hp
    simp only [F_spec_l29Tree_l5]
    rw [ck_of (inI (by omega) (by omega)), hle, if_pos (by omega), inc_idx hin (by omega), if_pos (by omega)]
  · intro _
    simp only [F_spec_l29Tree_l5]
    rw [ck_of (inI (by omega) (by omega)), hle, if_neg (by omega)]
def nearOf (B : List (List Int)) (i v : Nat) : Nat := ((B.take i).map mk).foldl (fun (b m : Nat) => if m.testBit v = true then b ||| m else b) 0
theorem nearOf_succ {B : List (List Int)} {i v : Nat} (h : i < B.length) : nearOf B (i + 1) v = if (mk B[i]).testBit v = true then nearOf B i v ||| mk B[i] else nearOf B i v := by
  unfold nearOf; rw [take_succ_of h, List.map_append, List.foldl_append]; rfl
theorem nearOf_lt {B : List (List Int)} {i v k : Nat} (h : ∀ b ∈ B, mk b < 2 ^ k) : nearOf B i v < 2 ^ k := by
  unfold nearOf
  refine orFold_lt (fun x hx => ?_) 0 (Nat.two_pow_pos k)
  rw [List.mem_map] at hx
  obtain ⟨b, hb, rfl⟩ := hx
  exact h b (List.mem_of_mem_take hb)
def nears (B : List (List Int)) (n i : Nat) : List Int := (List.range n).map fun (v : Nat) => (nearOf B i v : Int)
theorem range_set {n w : Nat} {f f' : Nat → Int} {y : Int} (hw : w < n) (h1 : f' w = y) (h2 : ∀ v, v ≠ w → f' v = f v) : ((List.range n).map f).set w y = (List.range n).map f' := by
  apply List.ext_getElem
  · simp
  · intro v h3 h4
    simp only [List.length_map, List.length_range] at h4
    rw [List.getElem_set]
    by_cases e : w = v
    · subst e; rw [if_pos rfl]; simp [h1]
    · rw [if_neg e]; simp [h2 v (fun h => e h.symm)]
theorem idx_range {β : Type} {n w : Nat} {f : Nat → Int} {q : Int → Option β} (hw : w < n) : idx ((List.range n).map f) (w : Int) q = q (f w) := by
  rw [idx_nat (by simp; exact hw)]; simp
open Classical in
theorem l29Whole_eq (hg : GOk g) (h : NodesOk g.length m K V B C) (hm : m ≤ 200) (hK : K.length = m) (hV : V.length = m) (hB : B.length = m) (hC : C.length = m) :
    F_spec_l29Whole g K V B C = some (decide ((∀ v, v < g.length → (dropsTo K V m).count (v : Int) = 1) ∧ Covers (nb g) (B.map mk))) := by
  have h16 := hg.n16
  have h1 := hg.n1
  have hp := pow16 h16
  have hbag : ∀ i (hi : i < m), BagAt g.length (B[i]'(by omega)) := fun i hi => by
    have := (h i hi).1
    rwa [List.getD_eq_getElem?_getD, List.getElem?_eq_getElem (by omega)] at this
  have hbl : ∀ b ∈ B, mk b < 2 ^ g.length := fun b hb => by
    obtain ⟨i, hi, rfl⟩ := List.getElem_of_mem hb
    exact (hbag i (by omega)).2.lt
  have key : lp (fun s => F_spec_l29Whole_l1 K V B s.1 s.2.1 s.2.2) (List.replicate g.length (0 : Int), List.replicate g.length (0 : Int), 0) = some (.inl (incAll (dropsTo K V m) (List.replicate g.length 0), nears B g.length m)) := by
    refine lp_upto (fun i => (incAll (dropsTo K V i) (List.replicate g.length 0), nears B g.length i, (i : Int))) m ?_ (fun i hi => ?_) ?_
    · simp only [dropsTo, List.range_zero, List.filter_nil, List.map_nil, incAll, List.foldl_nil, nears, nearOf, List.take_zero]
      congr 2
      apply List.ext_getElem <;> simp
    · have hiB : i < B.length := by omega
      have hiK : i < K.length := by omega
      have hiV : i < V.length := by omega
      have hd := h.drops h16 (i := i) (by omega)
      have hdl := dropsTo_len K V i
      have hc : (dropsTo K V i).count V[i] ≤ (dropsTo K V i).length := List.count_le_length
      have eK : K.getD i 0 = K[i] := by simp [hiK]
      have eV : V.getD i 0 = V[i] := by simp [hiV]
      have hr := (hbag i hi).2
      have hbi := hr.len16 h16
      have hb := hbl _ (List.getElem_mem hiB)
      have inner : lp (fun s => F_spec_l29Whole_l3 B (i : Int) (mk B[i] : Int) s.1 s.2) (nears B g.length i, 0) = some (.inl (nears B g.length (i + 1))) := by
        refine lp_upto (fun j => ((List.range g.length).map (fun (v : Nat) => ((if (v : Int) ∈ B[i].take j then nearOf B i v ||| mk B[i] else nearOf B i v : Nat) : Int)), (j : Int))) B[i].length (by simp [nears]) (fun j hj => ?_) ?_
        · simp only [F_spec_l29Whole_l3]
          have hx := hr.mem (List.getElem_mem hj)
          obtain ⟨w, hw⟩ := Int.eq_ofNat_of_zero_le hx.1
          have hnw := nearOf_lt (i := i) (v := w) hbl
          rw [idx_nat hiB, if_pos (by omega), idx_nat hiB, idx_nat hj, idx_nat hiB, idx_nat hj, hw, idx_range (by omega), idx_range (by omega), ck_of (inI (by omega) (by omega)), Int.toNat_natCast]
          have hor := or_lt hnw hb
          have hval : i64or ((if (w : Int) ∈ B[i].take j then nearOf B i w ||| mk B[i] else nearOf B i w : Nat) : Int) (mk B[i] : Int) = ((nearOf B i w ||| mk B[i] : Nat) : Int) := by
            split
            · rw [i64or_nat (by omega) (by omega), Nat.or_assoc, Nat.or_self]
            · rw [i64or_nat (by omega) (by omega)]
          rw [hval, range_set (f' := fun (v : Nat) => ((if (v : Int) ∈ B[i].take (j + 1) then nearOf B i v ||| mk B[i] else nearOf B i v : Nat) : Int)) (by omega) ?_ ?_]
          · rfl
          · rw [if_pos (by rw [take_succ_of hj, hw]; simp)]
          · intro v hv
            have : (v : Int) ∈ B[i].take (j + 1) ↔ (v : Int) ∈ B[i].take j := by
              rw [take_succ_of hj, List.mem_append, List.mem_singleton, hw]
              exact ⟨fun h => h.elim id fun e => absurd (by omega) hv, .inl⟩
            simp only [this]
        · simp only [F_spec_l29Whole_l3]
          rw [idx_nat hiB, if_neg (by omega), List.take_length]
          unfold nears
          congr 3
          apply List.map_congr_left
          intro v _
          rw [nearOf_succ hiB]
          simp only [← hr.mem_mk v]
      have hk2 : F_spec_l29Whole_k2 B (nears B g.length i) (i : Int) (incAll (dropsTo K V (i + 1)) (List.replicate g.length 0)) = some (.inl (incAll (dropsTo K V (i + 1)) (List.replicate g.length 0), nears B g.length (i + 1), ((i + 1 : Nat) : Int))) := by
        unfold F_spec_l29Whole_k2
        rw [idx_nat hiB, cal_of (l25Mask_eq (fun v hv => by have := hr.mem hv; omega) (by have := hr.len16 h16; omega)), bnd_l inner]
        unfold F_spec_l29Whole_k4
        rw [ck_of (inI (by omega) (by omega))]; rfl
      simp only [F_spec_l29Whole_l1]
      rw [if_pos (by omega), idx_nat hiK]
      by_cases k3 : K[i] = 3
      · have hv := (h.drop h16 hi (by rw [eK]; exact k3)).1
        rw [eV] at hv
        rw [if_pos k3, idx_nat hiV, inc_idx hd hv, ck_of (inI (by omega) (by omega)), inc_idx hd hv, inc_set hd hv, bnd_l rfl]
        rw [dropsTo_succ, eK, if_pos k3, eV] at hk2 ⊢
        exact hk2
      · rw [if_neg k3, bnd_l rfl]
        rw [dropsTo_succ, eK, if_neg k3] at hk2 ⊢
        exact hk2
    · simp only [F_spec_l29Whole_l1]
      rw [if_neg (by omega)]
  unfold F_spec_l29Whole
  rw [mkS_of (by omega) (by unfold lim; omega), mkS_of (by omega) (by unfold lim; omega), Int.toNat_natCast, bnd_l key]
  unfold F_spec_l29Whole_k5
  rw [cal_of (l25Bits_eq hg)]
  have hd := h.drops h16 (Nat.le_refl m)
  have hle : (incAll (dropsTo K V m) (List.replicate g.length (0 : Int))).length = g.length := by rw [incAll_len, List.length_replicate]
  have hnl := nb_len g
  have hat : ∀ v (hv : v < g.length), (sdiff (mk g[v]) (nearOf B m v) = 0) ↔ ∀ j, (mk g[v]).testBit j = true → ∃ x ∈ B.map mk, x.testBit v = true ∧ x.testBit j = true := by
    intro v hv
    have e : nearOf B m v = (B.map mk).foldl (fun (b m : Nat) => if m.testBit v = true then b ||| m else b) 0 := by unfold nearOf; rw [← hB, List.take_length]
    rw [e]
    constructor
    · intro h2 j hj
      have h3 : (sdiff (mk g[v]) ((B.map mk).foldl (fun (b m : Nat) => if m.testBit v = true then b ||| m else b) 0)).testBit j = false := by rw [h2, Nat.zero_testBit]
      rw [sdiff_bit, hj, Bool.true_and, Bool.not_eq_false'] at h3
      rcases (orFold_bit (B.map mk) v 0 j).1 h3 with h4 | h4
      · rw [Nat.zero_testBit] at h4; cases h4
      · exact h4
    · intro h3
      refine bits_ext fun j => ?_
      rw [sdiff_bit, Nat.zero_testBit]
      cases e : (mk g[v]).testBit j with
      | false => rfl
      | true => rw [(orFold_bit (B.map mk) v 0 j).2 (.inr (h3 j e))]; rfl
  have k2 := lp_allC (step := fun s => F_spec_l29Whole_l6 (incAll (dropsTo K V m) (List.replicate g.length 0)) (nears B g.length m) (ints (nb g)) s) (fun k => (k : Int)) g.length (fun v => (dropsTo K V m).count (v : Int) = 1 ∧ ∀ hv : v < g.length, sdiff (mk g[v]) (nearOf B m v) = 0)
    ((∀ v, v < g.length → (dropsTo K V m).count (v : Int) = 1) ∧ Covers (nb g) (B.map mk)) (oT := .inl ()) (oF := .inr false) ?_ ?_ ?_ ?_
  · rw [show ((0 : Nat) : Int) = 0 from rfl] at k2
    rw [k2, bnd_if]
    unfold F_spec_l29Whole_k7
    split
    · rename_i hq; rw [decide_eq_true hq]
    · rename_i hq; rw [decide_eq_false hq]
  · constructor
    · rintro ⟨q1, q2⟩ v hv
      refine ⟨q1 v hv, fun hv => (hat v hv).2 ?_⟩
      have := (q2 v (by omega)).2
      rwa [nb_getD hv] at this
    · intro q
      refine ⟨fun v hv => (q v hv).1, fun v hv => ?_⟩
      rw [hnl] at hv
      refine ⟨?_, by rw [nb_getD hv]; exact (hat v hv).1 ((q v hv).2 hv)⟩
      have hmem : (v : Int) ∈ dropsTo K V m := List.count_pos_iff.1 (by have := (q v hv).1; omega)
      obtain ⟨i, hi, hk, hvv⟩ := mem_drops.1 hmem
      obtain ⟨_, k, hki, hb⟩ := h.drop h16 hi hk
      rw [hvv, Int.toNat_natCast] at hb
      refine ⟨_, ?_, hb⟩
      rw [List.getD_eq_getElem?_getD, List.getElem?_eq_getElem (by omega)]
      exact List.mem_map_of_mem (List.getElem_mem _)
  · intro v hv _ hp
    simp only [F_spec_l29Whole_l6]
    have hb := nb_lt hg (v := v) (by omega)
    have hn := nearOf_lt (i := m) (v := v) hbl
    have hgv := (hg.rows v hv).1.lt
    have hI : idx (ints (nb g)) (v : Int) = fun (q : Int → Option (Int ⊕ (Unit ⊕ Bool))) => q (mk g[v] : Int) := by
      funext q
      rw [idx_nat (by simp [ints]; omega)]
      simp [ints, nb]
    rw [hle, if_pos (by omega), inc_idx hd (by omega), hp.1, if_neg (by decide), hI]
    unfold nears
    dsimp only
    rw [idx_range hv, i64andn_nat (by omega) (by omega), hp.2 hv, if_neg (by decide), ck_of (inI (by omega) (by omega))]; rfl
  · intro v hv _ hp
    simp only [F_spec_l29Whole_l6]
    have hb := nb_lt hg (v := v) (by omega)
    have hn := nearOf_lt (i := m) (v := v) hbl
    have hgv := (hg.rows v hv).1.lt
    have hI : idx (ints (nb g)) (v : Int) = fun (q : Int → Option (Int ⊕ (Unit ⊕ Bool))) => q (mk g[v] : Int) := by
      funext q
      rw [idx_nat (by simp [ints]; omega)]
      simp [ints, nb]
    rw [hle, if_pos (by omega), inc_idx hd (by omega)]
    by_cases q1 : (dropsTo K V m).count (v : Int) = 1
    · have q2 : ¬ sdiff (mk g[v]) (nearOf B m v) = 0 := fun e => hp ⟨q1, fun _ => e⟩
      rw [q1, if_neg (by decide), hI]
      unfold nears
      dsimp only
      rw [idx_range hv, i64andn_nat (by omega) (by omega), if_pos (by omega)]
    · rw [if_pos (by omega)]
  · intro _
    simp only [F_spec_l29Whole_l6]
    rw [hle, if_neg (by omega)]
end
theorem nice_bool {p q : Prop} [Decidable p] [Decidable q] (h : p ↔ q) : some (decide p) = some (decide q) := by rw [decide_eq_decide.2 h]
open Classical in
theorem specNiceOk_eq (g : List (List Int)) (K V : List Int) (B C : List (List Int)) (hgl : g.length ≤ 1048576) (hl : ∀ x ∈ g, x.length ≤ 1048576) (hbl : ∀ x ∈ B, x.length ≤ 1048576) (hcl : ∀ x ∈ C, x.length ≤ 1048576) :
    F_spec_NiceOk g K V B C = some (decide (NiceIs g K V B C)) := by
  unfold F_spec_NiceOk
  rw [cal_of (specGraphOk_eq g hl)]
  by_cases hg : GOk g
  case neg => rw [if_pos (by simpa using hg)]; exact congrArg some (decide_eq_false (fun h => hg h.1)).symm
  rw [if_neg (by simpa using hg)]
  by_cases c1 : 1 ≤ K.length
  case neg => rw [if_pos (by omega)]; exact congrArg some (decide_eq_false (fun h => c1 h.2.1.1)).symm
  rw [if_neg (by omega)]
  by_cases c2 : K.length ≤ 200
  case neg => rw [if_pos (by omega)]; exact congrArg some (decide_eq_false (fun h => c2 h.2.1.2)).symm
  rw [if_neg (by omega)]
  by_cases c3 : V.length = K.length
  case neg => rw [if_pos (by omega)]; exact congrArg some (decide_eq_false (fun h => c3 h.2.2.1)).symm
  rw [if_neg (by omega)]
  by_cases c4 : B.length = K.length
  case neg => rw [if_pos (by omega)]; exact congrArg some (decide_eq_false (fun h => c4 h.2.2.2.1)).symm
  rw [if_neg (by omega)]
  by_cases c5 : C.length = K.length
  case neg => rw [if_pos (by omega)]; exact congrArg some (decide_eq_false (fun h => c5 h.2.2.2.2.1)).symm
  rw [if_neg (by omega)]
  have hN : NiceIs g K V B C ↔ NodesOk g.length K.length K V B C ∧ WholeOk g K.length K V B C := ⟨fun h => h.2.2.2.2.2, fun h => ⟨hg, ⟨c1, c2⟩, c3, c4, c5, h⟩⟩
  have key := lp_allC (step := fun s => F_spec_NiceOk_l1 g K V B C s) (fun k => (k : Int)) K.length (fun i => BagAt g.length (B.getD i []) ∧ NodeAt K V B C i) (NodesOk g.length K.length K V B C) (oT := .inl ()) (oF := .inr false) Iff.rfl ?_ ?_ ?_
  · rw [show ((0 : Nat) : Int) = 0 from rfl] at key
    rw [key, bnd_if]
    by_cases hn : NodesOk g.length K.length K V B C
    case neg => rw [if_neg hn]; exact congrArg some (decide_eq_false (fun h => hn (hN.1 h).1)).symm
    rw [if_pos hn]
    unfold F_spec_NiceOk_k2
    have e1 : (K.length : Int) - 1 = ((K.length - 1 : Nat) : Int) := by omega
    have hlast := (hn (K.length - 1) (by omega)).1.2
    have eB : B.getD (K.length - 1) [] = B[K.length - 1]'(by omega) := by rw [List.getD_eq_getElem?_getD, List.getElem?_eq_getElem (by omega)]; rfl
    rw [ck_of (inI (by omega) (by omega)), e1, idx_nat (by omega)]
    by_cases h0 : B[K.length - 1]'(by omega) = []
    · rw [if_pos (by rw [h0]; rfl), cal_of (l29Tree_eq hn c2 c1 rfl c5)]
      by_cases ht : ∀ v, v + 1 < K.length → (kidsTo C K.length).count (v : Int) = 1
      · rw [if_pos (by rw [decide_eq_true_iff]; exact ht), cal_of (l29Whole_eq hg hn c2 rfl c3 c4 c5)]
        refine nice_bool (Iff.trans ?_ hN.symm)
        exact ⟨fun h => ⟨hn, by rw [eB, h0]; rfl, ht, h⟩, fun h => h.2.2.2⟩
      · rw [if_neg (by rw [decide_eq_true_iff]; exact ht)]
        exact congrArg some (decide_eq_false (fun h => ht (hN.1 h).2.2.1)).symm
    · have h0' : (B[K.length - 1]'(by omega)).length ≠ 0 := fun h => h0 (List.length_eq_zero_iff.1 h)
      rw [if_neg (by omega)]
      refine congrArg some (decide_eq_false (fun h => h0 ?_)).symm
      have := (hN.1 h).2.1
      rw [eB] at this
      rw [eB] at hlast
      exact (mk_nil_iff hlast).1 this
  · intro i hi hb hp
    simp only [F_spec_NiceOk_l1]
    rw [if_pos (by omega), cal_of (l29Node_eq hg.n16 c2 hi rfl c3 c4 c5 hcl hbl (fun j hj => (hb j hj).1)), if_neg (by rw [decide_eq_true_iff]; exact fun h => h hp), ck_of (inI (by omega) (by omega))]; rfl
  · intro i hi hb hp
    simp only [F_spec_NiceOk_l1]
    rw [if_pos (by omega), cal_of (l29Node_eq hg.n16 c2 hi rfl c3 c4 c5 hcl hbl (fun j hj => (hb j hj).1)), if_pos (by rw [decide_eq_true_iff]; exact hp)]
  · intro _
    simp only [F_spec_NiceOk_l1]
    rw [if_neg (by omega)]
open Classical in
theorem implNiceOk_eq (g : List (List Int)) (K V : List Int) (B C : List (List Int)) (hgl : g.length ≤ 1048576) (hl : ∀ x ∈ g, x.length ≤ 1048576) (hbl : ∀ x ∈ B, x.length ≤ 1048576) (hcl : ∀ x ∈ C, x.length ≤ 1048576) :
    F_impl_NiceOk g K V B C = some (decide (NiceIs g K V B C)) := by
  unfold F_impl_NiceOk
  rw [cal_of (implGraphOk_eq g hgl hl)]
  by_cases hg : GOk g
  case neg => rw [if_pos (by simpa using hg)]; exact congrArg some (decide_eq_false (fun h => hg h.1)).symm
  rw [if_neg (by simpa using hg)]
  by_cases c1 : 1 ≤ K.length
  case neg => rw [if_pos (by omega)]; exact congrArg some (decide_eq_false (fun h => c1 h.2.1.1)).symm
  rw [if_neg (by omega)]
  by_cases c2 : K.length ≤ 200
  case neg => rw [if_pos (by omega)]; exact congrArg some (decide_eq_false (fun h => c2 h.2.1.2)).symm
  rw [if_neg (by omega)]
  by_cases c3 : V.length = K.length
  case neg => rw [if_pos (by omega)]; exact congrArg some (decide_eq_false (fun h => c3 h.2.2.1)).symm
  rw [if_neg (by omega)]
  by_cases c4 : B.length = K.length
  case neg => rw [if_pos (by omega)]; exact congrArg some (decide_eq_false (fun h => c4 h.2.2.2.1)).symm
  rw [if_neg (by omega)]
  by_cases c5 : C.length = K.length
  case neg => rw [if_pos (by omega)]; exact congrArg some (decide_eq_false (fun h => c5 h.2.2.2.2.1)).symm
  rw [if_neg (by omega)]
  have h16 := hg.n16
  have h1 := hg.n1
  have hp := pow16 h16
  have hN : NiceIs g K V B C ↔ NodesOk g.length K.length K V B C ∧ WholeOk g K.length K V B C := ⟨fun h => h.2.2.2.2.2, fun h => ⟨hg, ⟨c1, c2⟩, c3, c4, c5, h⟩⟩
  have key := lp_allC (step := fun s => F_impl_NiceOk_l1 g B s) (fun k => (k : Int)) B.length (fun i => BagAt g.length (B.getD i [])) (∀ i, i < B.length → BagAt g.length (B.getD i [])) (oT := .inl ()) (oF := .inr false) Iff.rfl ?_ ?_ ?_
  · rw [show ((0 : Nat) : Int) = 0 from rfl] at key
    rw [key, bnd_if]
    by_cases hb : ∀ i, i < B.length → BagAt g.length (B.getD i [])
    case neg => rw [if_neg hb]; exact congrArg some (decide_eq_false (fun h => hb fun i hi => ((hN.1 h).1 i (by omega)).1)).symm
    rw [if_pos hb]
    have hbm : ∀ b ∈ B, BagAt g.length b := fun b hbb => by
      obtain ⟨i, hi, rfl⟩ := List.getElem_of_mem hbb
      have := hb i hi
      rwa [List.getD_eq_getElem?_getD, List.getElem?_eq_getElem hi] at this
    unfold F_impl_NiceOk_k2
    rw [cal_of (bagMasks_eq (by omega) (fun b hbb v hv => by have := (hbm b hbb).2.mem hv; omega) hbl), mkS_of (by omega) (by unfold lim; omega), mkS_of (by omega) (by unfold lim; omega), Int.toNat_natCast, Int.toNat_natCast]
    have k3 := lp_allC (step := fun s => F_impl_NiceOk_l3 g K V B C (bvs (B.map mk)) s.1 s.2.1 s.2.2) (fun i => (incAll (kidsTo C i) (List.replicate K.length 0), incAll (dropsTo K V i) (List.replicate g.length 0), (i : Int))) K.length (fun i => NodeAt K V B C i) (NodesOk g.length K.length K V B C)
      (oT := .inl (incAll (kidsTo C K.length) (List.replicate K.length 0), incAll (dropsTo K V K.length) (List.replicate g.length 0))) (oF := .inr false) ⟨fun h i hi => (h i hi).2, fun h i hi => ⟨hb i (by omega), h i hi⟩⟩ ?_ ?_ ?_
    · rw [show (incAll (kidsTo C 0) (List.replicate K.length (0 : Int)), incAll (dropsTo K V 0) (List.replicate g.length (0 : Int)), ((0 : Nat) : Int)) = (List.replicate K.length (0 : Int), List.replicate g.length (0 : Int), 0) from rfl] at k3
      rw [k3]
      by_cases hn : NodesOk g.length K.length K V B C
      case neg => rw [if_neg hn, bnd_r rfl]; exact congrArg some (decide_eq_false (fun h => hn (hN.1 h).1)).symm
      rw [if_pos hn, bnd_l rfl]
      unfold F_impl_NiceOk_k6
      have hin := hn.kids (Nat.le_refl _)
      have hle : (incAll (kidsTo C K.length) (List.replicate K.length (0 : Int))).length = K.length := by rw [incAll_len, List.length_replicate]
      have hz : (kidsTo C K.length).count ((K.length - 1 : Nat) : Int) = 0 := by
        rw [List.count_eq_zero]
        intro hx
        obtain ⟨j, h2, h3⟩ := mem_kidsTo hx
        have := (hn j h2).2.1 _ h3
        omega
      have k4 := lp_allC (step := fun s => F_impl_NiceOk_l7 K (incAll (kidsTo C K.length) (List.replicate K.length 0)) s) (fun k => (k : Int)) K.length (fun v => v + 1 < K.length → (kidsTo C K.length).count (v : Int) = 1) (∀ v, v + 1 < K.length → (kidsTo C K.length).count (v : Int) = 1) (oT := .inl ()) (oF := .inr false)
        ⟨fun h v _ => h v, fun h v hv => h v (by omega) hv⟩ ?_ ?_ ?_
      · rw [show ((0 : Nat) : Int) = 0 from rfl] at k4
        rw [k4, bnd_if]
        by_cases ht : ∀ v, v + 1 < K.length → (kidsTo C K.length).count (v : Int) = 1
        case neg => rw [if_neg ht]; exact congrArg some (decide_eq_false (fun h => ht (hN.1 h).2.2.1)).symm
        rw [if_pos ht]
        unfold F_impl_NiceOk_k8
        have e1 : (K.length : Int) - 1 = ((K.length - 1 : Nat) : Int) := by omega
        have hlast := (hn (K.length - 1) (by omega)).1.2
        have eB : B.getD (K.length - 1) [] = B[K.length - 1]'(by omega) := by rw [List.getD_eq_getElem?_getD, List.getElem?_eq_getElem (by omega)]; rfl
        have hlt := hlast.lt
        rw [eB] at hlt
        rw [ck_of (inI (by omega) (by omega)), e1, idx_bvs (by rw [List.length_map]; omega), List.getElem_map]
        by_cases h0 : mk (B[K.length - 1]'(by omega)) = 0
        · have hdl : (incAll (dropsTo K V K.length) (List.replicate g.length (0 : Int))).length = g.length := by rw [incAll_len, List.length_replicate]
          have hd := hn.drops h16 (Nat.le_refl _)
          rw [if_pos (by rw [h0])]
          dsimp only
          rw [hasF_int _ _ (fun d => decide (d ≠ 1)) (by omega) (fun x _ => by unfold F_impl_NiceOk_1; rfl), cal_some_eq]
          have hany : (incAll (dropsTo K V K.length) (List.replicate g.length (0 : Int))).any (fun d => decide (d ≠ 1)) = true ↔ ¬ ∀ v, v < g.length → (dropsTo K V K.length).count (v : Int) = 1 := by
            rw [List.any_eq_true]
            constructor
            · rintro ⟨x, hx, h2⟩ h3
              obtain ⟨v, hv, rfl⟩ := List.getElem_of_mem hx
              rw [hdl] at hv
              have := inc_val hd hv
              rw [List.getD_eq_getElem?_getD, List.getElem?_eq_getElem (by omega), Option.getD_some, h3 v hv] at this
              rw [decide_eq_true_iff] at h2
              exact h2 this
            · intro h3
              refine Classical.byContradiction fun h4 => h3 fun v hv => Classical.byContradiction fun h5 => h4 ⟨_, List.getElem_mem (show v < _ by rw [hdl]; exact hv), ?_⟩
              have := inc_val hd hv
              rw [List.getD_eq_getElem?_getD, List.getElem?_eq_getElem (by omega), Option.getD_some] at this
              rw [decide_eq_true_iff, this]
              omega
          by_cases hw : ∀ v, v < g.length → (dropsTo K V K.length).count (v : Int) = 1
          · rw [if_pos (by rw [hany]; exact fun h => h hw), cal_of (netsOf_eq hg), cal_of (coversEdges_eq (by rw [nb_len]; exact h16) (fun v hv => nb_lt16 hg hv) (by rw [List.length_map]; omega) (fun x hx => by
              rw [List.mem_map] at hx
              obtain ⟨b, hbb, rfl⟩ := hx
              have := (hbm b hbb).2.lt
              omega))]
            refine nice_bool (Iff.trans ?_ hN.symm)
            exact ⟨fun h => ⟨hn, by rw [eB]; exact h0, ht, hw, h⟩, fun h => h.2.2.2.2⟩
          · rw [if_neg (by rw [hany]; exact fun h => h hw)]
            exact congrArg some (decide_eq_false (fun h => hw (hN.1 h).2.2.2.1)).symm
        · rw [if_neg (by rw [bv_inj (by omega) (by decide)]; exact h0)]
          refine congrArg some (decide_eq_false (fun h => h0 ?_)).symm
          have := (hN.1 h).2.1
          rwa [eB] at this
      · intro v hv _ hpv
        simp only [F_impl_NiceOk_l7]
        rw [hle, if_pos (by omega), inc_idx hin (by omega), ck_of (inI (by omega) (by omega))]
        by_cases hvm : v + 1 < K.length
        · rw [hpv hvm, if_neg (by rw [decide_eq_true (by rfl), decide_eq_true (by omega)]; decide), if_neg (by decide), ck_of (inI (by omega) (by omega))]; rfl
        · obtain rfl : v = K.length - 1 := by omega
          rw [hz, if_neg (by rw [decide_eq_false (by decide), decide_eq_false (by omega)]; decide), if_neg (by decide), ck_of (inI (by omega) (by omega))]; rfl
      · intro v hv _ hpv
        simp only [F_impl_NiceOk_l7]
        have hvm : v + 1 < K.length := Classical.byContradiction fun h => hpv fun h' => absurd h' h
        have hne : ¬ (kidsTo C K.length).count (v : Int) = 1 := fun h => hpv fun _ => h
        rw [hle, if_pos (by omega), inc_idx hin (by omega), ck_of (inI (by omega) (by omega)), if_pos (by rw [decide_eq_false (by omega), decide_eq_true (by omega)]; decide)]
      · intro _
        simp only [F_impl_NiceOk_l7]
        rw [hle, if_neg (by omega)]
    · intro i hi hbef hp
      have hnk : NodesOk g.length (i + 1) K V B C := fun j hj => ⟨hb j (by omega), by rcases Nat.lt_succ_iff_lt_or_eq.1 hj with e | e; exact hbef j e; rw [e]; exact hp⟩
      have hiC : i < C.length := by omega
      have hiK : i < K.length := hi
      have hiV : i < V.length := by omega
      have eK : K.getD i 0 = K[i] := by simp [hiK]
      have eV : V.getD i 0 = V[i] := by simp [hiV]
      have eC : C.getD i [] = C[i] := by simp [hiC]
      have l1 : (kidsTo C i).length ≤ 2 * i := by
        have key2 : ∀ j, j ≤ i → (kidsTo C j).length ≤ 2 * j := by
          intro j
          induction j with
          | zero => intro _; simp [kidsTo]
          | succ j ih =>
            intro hj
            have h5 := (hnk j (by omega)).2.kids
            rw [List.getD_eq_getElem?_getD, List.getElem?_eq_getElem (by omega)] at h5
            rw [kidsTo_succ (by omega), List.length_append]
            have := ih (by omega)
            simp only [Option.getD_some] at h5
            omega
        exact key2 i (Nat.le_refl _)
      have l2 := hp.kids
      rw [eC] at l2
      have hkk : ∀ x ∈ kidsTo C i ++ C[i], 0 ≤ x ∧ x < K.length := fun x hx => by
        rw [← kidsTo_succ hiC] at hx
        have := hnk.kids (Nat.le_refl _) x hx
        omega
      have hd := hnk.drops h16 (i := i) (by omega)
      have hdl := dropsTo_len K V i
      have hc : (dropsTo K V i).count V[i] ≤ (dropsTo K V i).length := List.count_le_length
      have inner : lp (fun s => F_impl_NiceOk_l4 C[i] s.1 s.2) (incAll (kidsTo C i) (List.replicate K.length 0), 0) = some (.inl (incAll (kidsTo C i ++ C[i]) (List.replicate K.length 0))) := by
        refine inc_loop C[i] (kidsTo C i) K.length (fun y hy => hkk y (List.mem_append_left _ hy)) (fun y hy => hkk y (List.mem_append_right _ hy)) (by omega) (fun k hk t => ?_) ?_
        · simp only [F_impl_NiceOk_l4]
          rw [if_pos (by omega), idx_nat hk]
        · simp only [F_impl_NiceOk_l4]
          rw [if_neg (by omega)]
      simp only [F_impl_NiceOk_l3]
      rw [if_pos (by omega), cal_of (goodNode_eq h16 h1 c2 hi rfl c3 c4 c5 hcl (fun b hbb => (hbm b hbb).2)), if_neg (by rw [decide_eq_true_iff]; exact fun h => h hp), idx_nat hiC, bnd_l inner]
      unfold F_impl_NiceOk_k5
      rw [idx_nat hiK]
      by_cases k3 : K[i] = 3
      · have hv := (hnk.drop h16 (Nat.lt_succ_self i) (by rw [eK]; exact k3)).1
        rw [eV] at hv
        rw [if_pos k3, idx_nat hiV, inc_idx hd hv, ck_of (inI (by omega) (by omega)), inc_idx hd hv, ck_of (inI (by omega) (by omega)), inc_set hd hv, kidsTo_succ hiC, dropsTo_succ, eK, if_pos k3, eV]; rfl
      · rw [if_neg k3, ck_of (inI (by omega) (by omega)), kidsTo_succ hiC, dropsTo_succ, eK, if_neg k3]; rfl
    · intro i hi hbef hp
      simp only [F_impl_NiceOk_l3]
      rw [if_pos (by omega), cal_of (goodNode_eq h16 h1 c2 hi rfl c3 c4 c5 hcl (fun b hbb => (hbm b hbb).2)), if_pos (by rw [decide_eq_true_iff]; exact hp)]
    · intro _
      simp only [F_impl_NiceOk_l3]
      rw [if_neg (by omega)]
  · intro i hi _ hp
    simp only [F_impl_NiceOk_l1]
    rw [List.getD_eq_getElem?_getD, List.getElem?_eq_getElem hi, Option.getD_some] at hp
    have := hbl _ (List.getElem_mem hi)
    rw [if_pos (by omega), idx_nat hi, if_neg (by have := hp.1; omega), cal_of (increasing_eq _ _ (by omega) (by omega) (by omega)), if_neg (by rw [decide_eq_true_iff]; exact fun h => h hp.2), ck_of (inI (by omega) (by omega))]; rfl
  · intro i hi _ hp
    simp only [F_impl_NiceOk_l1]
    rw [List.getD_eq_getElem?_getD, List.getElem?_eq_getElem hi, Option.getD_some] at hp
    have := hbl _ (List.getElem_mem hi)
    rw [if_pos (by omega), idx_nat hi]
    by_cases h8 : B[i].length ≤ 8
    · rw [if_neg (by omega), cal_of (increasing_eq _ _ (by omega) (by omega) (by omega)), if_pos (by rw [decide_eq_true_iff]; exact fun h => hp ⟨h8, h⟩)]
    · rw [if_pos (by omega)]
  · intro _
    simp only [F_impl_NiceOk_l1]
    rw [if_neg (by omega)]
end Go.Proofs.Ytnebbhginakaiaa

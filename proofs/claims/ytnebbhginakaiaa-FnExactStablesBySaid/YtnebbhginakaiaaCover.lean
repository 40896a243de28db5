/- Sets that cover a graph's edges. -/
import Derived.Test.YtnebbhginakaiaaEdges
namespace Go.Proofs.Ytnebbhginakaiaa
theorem orFold_bit (l : List Nat) (v : Nat) : ∀ (b j : Nat), (l.foldl (fun (b m : Nat) => if m.testBit v = true then b ||| m else b) b).testBit j = true ↔ b.testBit j = true ∨ ∃ m ∈ l, m.testBit v = true ∧ m.testBit j = true := by
  induction l with
  | nil => intro b j; simp
  | cons m l ih =>
    intro b j
    rw [List.foldl_cons, ih]
    by_cases h : m.testBit v = true
    · rw [if_pos h, Nat.testBit_or, Bool.or_eq_true]
      constructor
      · rintro ((g | g) | ⟨x, hx, g⟩)
        · exact .inl g
        · exact .inr ⟨m, List.mem_cons_self .., h, g⟩
        · exact .inr ⟨x, List.mem_cons_of_mem _ hx, g⟩
      · rintro (g | ⟨x, hx, g1, g2⟩)
        · exact .inl (.inl g)
        · rcases List.mem_cons.1 hx with e | e
          · subst e; exact .inl (.inr g2)
          · exact .inr ⟨x, e, g1, g2⟩
    · rw [if_neg h]
      constructor
      · rintro (g | ⟨x, hx, g⟩)
        · exact .inl g
        · exact .inr ⟨x, List.mem_cons_of_mem _ hx, g⟩
      · rintro (g | ⟨x, hx, g1, g2⟩)
        · exact .inl g
        · rcases List.mem_cons.1 hx with e | e
          · subst e; exact absurd g1 h
          · exact .inr ⟨x, e, g1, g2⟩
theorem orFold_lt {l : List Nat} {v k : Nat} (h : ∀ m ∈ l, m < 2 ^ k) : ∀ b, b < 2 ^ k → l.foldl (fun (b m : Nat) => if m.testBit v = true then b ||| m else b) b < 2 ^ k := by
  induction l with
  | nil => intro b hb; exact hb
  | cons m l ih =>
    intro b hb
    rw [List.foldl_cons]
    refine ih (fun x hx => h x (List.mem_cons_of_mem _ hx)) _ ?_
    split
    · exact or_lt hb (h m (List.mem_cons_self ..))
    · exact hb
def Covers (a : List Nat) (ms : List Nat) : Prop := ∀ v, v < a.length → (∃ m ∈ ms, m.testBit v = true) ∧ ∀ j, (a.getD v 0).testBit j = true → ∃ m ∈ ms, m.testBit v = true ∧ m.testBit j = true
theorem bagMasks_eq {bags : List (List Int)} (hb : bags.length ≤ 1048576) (h : ∀ b ∈ bags, ∀ v ∈ b, 0 ≤ v ∧ v < 32) (hl : ∀ b ∈ bags, b.length ≤ 1048576) : F_impl_bagMasks bags = some (bvs (bags.map mk)) := by
  unfold F_impl_bagMasks
  have key : lp (fun s => F_impl_bagMasks_l1 bags s.1 s.2) (([] : List (BitVec 32)), 0) = some (.inl (bags.map fun b => BitVec.ofNat 32 (mk b))) := by
    refine lp_map bags (fun b => BitVec.ofNat 32 (mk b)) (fun k hk l hlk => ?_) ?_
    · simp only [F_impl_bagMasks_l1]
      have hm := List.getElem_mem hk
      rw [if_pos (by omega), idx_nat hk, cal_of (maskOf_eq (h _ hm) (hl _ hm)), app1_s (by omega), ck_of (inI (by omega) (by omega))]; rfl
    · simp only [F_impl_bagMasks_l1]
      rw [if_neg (by omega)]
  rw [bnd_l key]
  unfold F_impl_bagMasks_k2 bvs
  rw [List.map_map]; rfl
open Classical in
theorem coversEdges_eq {a ms : List Nat} (ha : a.length ≤ 16) (hb : ∀ v (h : v < a.length), a[v] < 2 ^ 16) (hml : ms.length ≤ 1048576) (hm : ∀ m ∈ ms, m < 2 ^ 16) : F_impl_coversEdges (bvs a) (bvs ms) = some (decide (Covers a ms)) := by
  unfold F_impl_coversEdges
  have inner : ∀ v : Nat, v < 32 → lp (fun s => F_impl_coversEdges_l2 (bvs ms) (v : Int) s.1 s.2) (0#32, 0) = some (.inl (BitVec.ofNat 32 (ms.foldl (fun (b m : Nat) => if m.testBit v = true then b ||| m else b) 0))) := by
    intro v hv
    refine lp_upto (fun k => (BitVec.ofNat 32 ((ms.take k).foldl (fun (b m : Nat) => if m.testBit v = true then b ||| m else b) 0), (k : Int))) ms.length rfl (fun k hk => ?_) ?_
    · simp only [F_impl_coversEdges_l2]
      have := hm _ (List.getElem_mem hk)
      rw [bvs_len, if_pos (by omega), idx_bvs hk, cal_of (has_eq (by omega) hv), take_succ_of hk, List.foldl_append, List.foldl_cons, List.foldl_nil]
      by_cases h : ms[k].testBit v = true
      · rw [if_pos h, if_pos h, ck_of (inI (by omega) (by omega)), bv_or]; rfl
      · rw [if_neg h, if_neg h, ck_of (inI (by omega) (by omega))]; rfl
    · simp only [F_impl_coversEdges_l2]
      rw [bvs_len, if_neg (by omega), List.take_length]
  have hat : ∀ v (h : v < a.length), ((∃ m ∈ ms, m.testBit v = true) ∧ ∀ j, (a.getD v 0).testBit j = true → ∃ m ∈ ms, m.testBit v = true ∧ m.testBit j = true) ↔
      ((ms.foldl (fun (b m : Nat) => if m.testBit v = true then b ||| m else b) 0).testBit v = true ∧ sdiff a[v] (ms.foldl (fun (b m : Nat) => if m.testBit v = true then b ||| m else b) 0) = 0) := by
    intro v h
    rw [orFold_bit, getD_get h]
    constructor
    · rintro ⟨⟨m, h1, h2⟩, h3⟩
      refine ⟨.inr ⟨m, h1, h2, h2⟩, bits_ext fun j => ?_⟩
      rw [sdiff_bit, Nat.zero_testBit]
      cases e : a[v].testBit j with
      | false => rfl
      | true =>
        rw [(orFold_bit ms v 0 j).2 (.inr (h3 j e))]; rfl
    · rintro ⟨h1, h2⟩
      refine ⟨?_, fun j hj => ?_⟩
      · rcases h1 with h1 | ⟨m, h3, h4, _⟩
        · rw [Nat.zero_testBit] at h1; cases h1
        · exact ⟨m, h3, h4⟩
      · have h3 : (sdiff a[v] (ms.foldl (fun (b m : Nat) => if m.testBit v = true then b ||| m else b) 0)).testBit j = false := by rw [h2, Nat.zero_testBit]
        rw [sdiff_bit, hj, Bool.true_and, Bool.not_eq_false'] at h3
        rcases (orFold_bit ms v 0 j).1 h3 with h4 | h4
        · rw [Nat.zero_testBit] at h4; cases h4
        · exact h4
  have key := lp_allC (step := fun s => F_impl_coversEdges_l1 (bvs a) (bvs ms) s) (fun k => (k : Int)) a.length (fun v => (∃ m ∈ ms, m.testBit v = true) ∧ ∀ j, (a.getD v 0).testBit j = true → ∃ m ∈ ms, m.testBit v = true ∧ m.testBit j = true) (Covers a ms) (oT := .inl ()) (oF := .inr false) Iff.rfl ?_ ?_ ?_
  · rw [show (0 : Int) = ((0 : Nat) : Int) from rfl, key, bnd_if]
    unfold F_impl_coversEdges_k4
    by_cases h : Covers a ms
    · rw [if_pos h, decide_eq_true h]
    · rw [if_neg h, decide_eq_false h]
  · intro v hv _ hp
    simp only [F_impl_coversEdges_l1]
    have hlt := orFold_lt (v := v) hm 0 (by decide)
    have hav := hb v hv
    obtain ⟨p1, p2⟩ := (hat v hv).1 hp
    rw [bvs_len, if_pos (by omega), idx_bvs hv, bnd_l (inner v (by omega))]
    unfold F_impl_coversEdges_k3
    rw [cal_of (has_eq (by omega) (by omega)), p1, if_neg (by simp), bv_andn (by omega), p2, if_neg (by simp), ck_of (inI (by omega) (by omega))]; rfl
  · intro v hv _ hp
    simp only [F_impl_coversEdges_l1]
    have hlt := orFold_lt (v := v) hm 0 (by decide)
    have hav := hb v hv
    rw [hat v hv] at hp
    rw [bvs_len, if_pos (by omega), idx_bvs hv, bnd_l (inner v (by omega))]
    unfold F_impl_coversEdges_k3
    rw [cal_of (has_eq (by omega) (by omega))]
    by_cases p1 : (ms.foldl (fun (b m : Nat) => if m.testBit v = true then b ||| m else b) 0).testBit v = true
    · have p2 : ¬ sdiff a[v] (ms.foldl (fun (b m : Nat) => if m.testBit v = true then b ||| m else b) 0) = 0 := fun h => hp ⟨p1, h⟩
      have := sdiff_le a[v] (ms.foldl (fun (b m : Nat) => if m.testBit v = true then b ||| m else b) 0)
      rw [if_neg (by simp [p1]), bv_andn (by omega), if_pos (by rw [Ne, bv_inj (by omega) (by decide)]; exact p2)]
    · rw [if_pos p1]
  · intro _
    simp only [F_impl_coversEdges_l1]
    rw [bvs_len, if_neg (by omega)]
end Go.Proofs.Ytnebbhginakaiaa

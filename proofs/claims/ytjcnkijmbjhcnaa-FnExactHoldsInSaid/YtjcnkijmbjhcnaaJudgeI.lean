/- Formulas: that the judge finds what a node says. -/
import Derived.Test.YtjcnkijmbjhcnaaJudgeS
namespace Go.Proofs.Ytjcnkijmbjhcnaa
abbrev bw (n : Nat) : BitVec 32 := BitVec.ofNat 32 n
theorem hasJ (b : BitVec 32) {v : Nat} (hv : v < 32) : F_impl_vset_has b (v : Int) = some (b.toNat.testBit v) := by
  have := has_eq (n := b.toNat) b.isLt hv
  rwa [BitVec.ofNat_toNat, BitVec.setWidth_eq] at this
section
variable {A : Int} (v : Nat → Nat) (i : Nat)
theorem if30 (h : 0 ≤ A) : (if A = 0 then (i : Int) else ((v 0 : Nat) : Int)) = ((updN v A.toNat i 0 : Nat) : Int) := if3 v i 0 h
theorem if31 (h : 0 ≤ A) : (if A = 1 then (i : Int) else ((v 1 : Nat) : Int)) = ((updN v A.toNat i 1 : Nat) : Int) := if3 v i 1 h
theorem if32 (h : 0 ≤ A) : (if A = 2 then (i : Int) else ((v 2 : Nat) : Int)) = ((updN v A.toNat i 2 : Nat) : Int) := if3 v i 2 h
theorem if20 (h : 0 ≤ A) : (if A = 0 then bw i else bw (v 0)) = bw (updN v A.toNat i 0) := if2b v i 0 h
theorem if21 (h : 0 ≤ A) : (if A = 1 then bw i else bw (v 1)) = bw (updN v A.toNat i 1) := if2b v i 1 h
end
def rvN (fr : List (BitVec 32)) (k : Nat) (v : Nat → Nat) (i : Nat) : Nat := if fb fr k i = true then v i else 0
def rsN (fr : List (BitVec 32)) (k : Nat) (s : Nat → Nat) (i : Nat) : Nat := if fb fr k (3 + i) = true then s i else 0
theorem rel_l1 {d : JD} {k : Nat} (hk : k < d.2.2.1.length) (i : Nat) (hi : i < 3) (x y z : Int) : F_impl_judge_relevant_l1 d (k : Int) x y z (i : Int) =
    some (.inl (if fb d.2.2.1 k i = true then (x, y, z, (i : Int) + 1) else (if (i : Int) = 0 then 0 else x, if (i : Int) = 1 then 0 else y, if (i : Int) = 2 then 0 else z, (i : Int) + 1))) := by
  unfold F_impl_judge_relevant_l1
  rw [if_pos (by omega), idxD (Int.natCast_nonneg _) (by rw [Int.toNat_natCast]; exact hk), Int.toNat_natCast, cal_of (hasJ _ (by omega))]
  change (if ¬ fb d.2.2.1 k i = true then _ else _) = _
  by_cases c : fb d.2.2.1 k i = true
  · rw [if_neg (by simp [c]), if_pos c, ck_of (inI (by omega) (by omega))]
  · rw [if_pos c, if_neg c, idx_nat (by simp; omega), ck_of (inI (by omega) (by omega))]
theorem rel_l3 {d : JD} {k : Nat} (hk : k < d.2.2.1.length) (i : Nat) (hi : i < 2) (x y : BitVec 32) : F_impl_judge_relevant_l3 d (k : Int) x y (i : Int) =
    some (.inl (if fb d.2.2.1 k (3 + i) = true then (x, y, (i : Int) + 1) else (if (i : Int) = 0 then 0#32 else x, if (i : Int) = 1 then 0#32 else y, (i : Int) + 1))) := by
  unfold F_impl_judge_relevant_l3
  rw [if_pos (by omega), idxD (Int.natCast_nonneg _) (by rw [Int.toNat_natCast]; exact hk), Int.toNat_natCast, ck_of (inI (by omega) (by omega)), show (3 : Int) + (i : Int) = ((3 + i : Nat) : Int) by omega, cal_of (hasJ _ (by omega))]
  change (if ¬ fb d.2.2.1 k (3 + i) = true then _ else _) = _
  by_cases c : fb d.2.2.1 k (3 + i) = true
  · rw [if_neg (by simp [c]), if_pos c, ck_of (inI (by omega) (by omega))]
  · rw [if_pos c, if_neg c, idx_nat (by simp; omega), ck_of (inI (by omega) (by omega))]
theorem relevant_eq {d : JD} {k : Nat} (hk : k < d.2.2.1.length) (v s : Nat → Nat) : F_impl_judge_relevant d (k : Int) (v 0 : Nat) (v 1 : Nat) (v 2 : Nat) (bw (s 0)) (bw (s 1)) =
    some ((((rvN d.2.2.1 k v 0 : Nat) : Int), ((rvN d.2.2.1 k v 1 : Nat) : Int), ((rvN d.2.2.1 k v 2 : Nat) : Int), bw (rsN d.2.2.1 k s 0), bw (rsN d.2.2.1 k s 1)), d) := by
  have key : lp (fun t => F_impl_judge_relevant_l1 d (k : Int) t.1 t.2.1 t.2.2.1 t.2.2.2) (((v 0 : Nat) : Int), ((v 1 : Nat) : Int), ((v 2 : Nat) : Int), (0 : Int)) =
      some (.inl (((rvN d.2.2.1 k v 0 : Nat) : Int), ((rvN d.2.2.1 k v 1 : Nat) : Int), ((rvN d.2.2.1 k v 2 : Nat) : Int))) := by
    refine (lp_inl (s' := (((rvN d.2.2.1 k v 0 : Nat) : Int), ((v 1 : Nat) : Int), ((v 2 : Nat) : Int), (1 : Int))) ?_).trans
      ((lp_inl (s' := (((rvN d.2.2.1 k v 0 : Nat) : Int), ((rvN d.2.2.1 k v 1 : Nat) : Int), ((v 2 : Nat) : Int), (2 : Int))) ?_).trans
      ((lp_inl (s' := (((rvN d.2.2.1 k v 0 : Nat) : Int), ((rvN d.2.2.1 k v 1 : Nat) : Int), ((rvN d.2.2.1 k v 2 : Nat) : Int), (3 : Int))) ?_).trans (lp_inr ?_)))
    · have := rel_l1 hk 0 (by omega) ((v 0 : Nat) : Int) ((v 1 : Nat) : Int) ((v 2 : Nat) : Int)
      refine this.trans ?_
      unfold rvN
      by_cases c : fb d.2.2.1 k 0 = true <;> simp [c]
    · have := rel_l1 hk 1 (by omega) ((rvN d.2.2.1 k v 0 : Nat) : Int) ((v 1 : Nat) : Int) ((v 2 : Nat) : Int)
      refine this.trans ?_
      rw [show rvN d.2.2.1 k v 1 = if fb d.2.2.1 k 1 = true then v 1 else 0 from rfl]
      by_cases c : fb d.2.2.1 k 1 = true <;> simp [c]
    · have := rel_l1 hk 2 (by omega) ((rvN d.2.2.1 k v 0 : Nat) : Int) ((rvN d.2.2.1 k v 1 : Nat) : Int) ((v 2 : Nat) : Int)
      refine this.trans ?_
      rw [show rvN d.2.2.1 k v 2 = if fb d.2.2.1 k 2 = true then v 2 else 0 from rfl]
      by_cases c : fb d.2.2.1 k 2 = true <;> simp [c]
    · simp only [F_impl_judge_relevant_l1]; rw [if_neg (by decide)]
  have key2 : lp (fun t => F_impl_judge_relevant_l3 d (k : Int) t.1 t.2.1 t.2.2) (bw (s 0), bw (s 1), (0 : Int)) = some (.inl (bw (rsN d.2.2.1 k s 0), bw (rsN d.2.2.1 k s 1))) := by
    refine (lp_inl (s' := (bw (rsN d.2.2.1 k s 0), bw (s 1), (1 : Int))) ?_).trans ((lp_inl (s' := (bw (rsN d.2.2.1 k s 0), bw (rsN d.2.2.1 k s 1), (2 : Int))) ?_).trans (lp_inr ?_))
    · have := rel_l3 hk 0 (by omega) (bw (s 0)) (bw (s 1))
      refine this.trans ?_
      unfold rsN
      by_cases c : fb d.2.2.1 k (3 + 0) = true <;> simp [c]
    · have := rel_l3 hk 1 (by omega) (bw (rsN d.2.2.1 k s 0)) (bw (s 1))
      refine this.trans ?_
      rw [show rsN d.2.2.1 k s 1 = if fb d.2.2.1 k (3 + 1) = true then s 1 else 0 from rfl]
      by_cases c : fb d.2.2.1 k (3 + 1) = true <;> simp [c]
    · simp only [F_impl_judge_relevant_l3]; rw [if_neg (by decide)]
  unfold F_impl_judge_relevant
  rw [bnd_l key]
  unfold F_impl_judge_relevant_k2
  rw [bnd_l key2]; rfl
section
variable {a : List Nat} {f : List (Int × Int × Int)} {d : JD} {rc : JD → Int → Int → Int → Int → BitVec 32 → BitVec 32 → Option (Bool × JD)}
theorem bw_le {n i : Nat} (hn : n < 2 ^ 32) (hi : i < 2 ^ 32) : bw i ≤ bw n ↔ i ≤ n := by
  unfold bw; rw [BitVec.le_def, bv_toNat hn, bv_toNat hi]
theorem bw_succ (i : Nat) : bw i + 1#32 = bw (i + 1) := by
  unfold bw; apply BitVec.eq_of_toNat_eq; simp [BitVec.toNat_add]
theorem direct_eq (hd : d.1 = bvs a) (hf : formulaOk f = true) (ha : a.length ≤ 8) (hb : ∀ v (h : v < a.length), a[v] < 2 ^ 16) {k : Nat} {v s : Nat → Nat} (hk : k < f.length) (hr : InR a.length v s) {x : Int × Int × Int} (hx : f[k]? = some x)
    (call : ∀ (y : Int) (v' s' : Nat → Nat), 0 ≤ y → y ≤ k - 1 → InR a.length v' s' → rc d y (v' 0 : Nat) (v' 1 : Nat) (v' 2 : Nat) (bw (s' 0)) (bw (s' 1)) = some (sat a f y.toNat v' s', d)) :
    F_impl_judge_direct rc d x.1 x.2.1 x.2.2 (v 0 : Nat) (v 1 : Nat) (v 2 : Nat) (bw (s 0)) (bw (s 1)) = some (sat a f k v s, d) := by
  have hlen := (formulaOk_iff.1 hf).1
  have hp : 2 ^ a.length ≤ 2 ^ 8 := Nat.pow_le_pow_right (by decide) ha
  have hp0 : 0 < 2 ^ a.length := Nat.two_pow_pos _
  unfold F_impl_judge_direct
  cases fk_all hf k x hx with
  | edge h a0 a1 b0 b1 =>
    have hv := hr.1 x.2.1.toNat
    have hv8 := hr.1 x.2.2.toNat
    rw [if_pos h, idx3 v a0 a1, hd, idx_bvs hv, idx3 v b0 b1, cal_of (has_eq (by have := hb _ hv; omega) (by omega)), sat1 hx h, getD_getJ hv]
  | same h a0 a1 b0 b1 =>
    rw [if_neg (by omega), if_pos h, idx3 v a0 a1, idx3 v b0 b1, sat2 hx h]
    congr 2; rw [Bool.eq_iff_iff, decide_eq_true_iff, decide_eq_true_iff]; omega
  | isin h a0 a1 b0 b1 =>
    have hv8 := hr.1 x.2.1.toNat
    rw [if_neg (by omega), if_neg (by omega), if_pos h, idx2b s b0 b1, idx3 v a0 a1, cal_of (has_eq (by have := hr.2 x.2.2.toNat; omega) (by omega)), sat3 hx h]
  | nott h a0 a1 =>
    rw [if_neg (by omega), if_neg (by omega), if_neg (by omega), if_pos h, cal_of (call _ v s a0 a1 hr), sat4 hx h (by omega)]
  | andd h a0 a1 b0 b1 =>
    rw [if_neg (by omega), if_neg (by omega), if_neg (by omega), if_neg (by omega), if_pos h, cal_of (call _ v s a0 a1 hr), cal_of (call _ v s b0 b1 hr), sat5 hx h (by omega) (by omega)]
    cases sat a f x.2.1.toNat v s <;> simp
  | orr h a0 a1 b0 b1 =>
    rw [if_neg (by omega), if_neg (by omega), if_neg (by omega), if_neg (by omega), if_neg (by omega), if_pos h, cal_of (call _ v s a0 a1 hr), cal_of (call _ v s b0 b1 hr), sat6 hx h (by omega) (by omega)]
    cases sat a f x.2.1.toNat v s <;> simp
  | ex h a0 a1 b0 b1 =>
    rw [if_neg (by omega), if_neg (by omega), if_neg (by omega), if_neg (by omega), if_neg (by omega), if_neg (by omega)]
    have key := lp_anyG (step := fun t => F_impl_judge_some_l1 d x.2.1 x.2.2 (bw (s 0)) (bw (s 1)) rc t.1 t.2.1 t.2.2.1 t.2.2.2.1 t.2.2.2.2)
      (fun i => (d, ((way v x.2.1.toNat i 0 : Nat) : Int), ((way v x.2.1.toNat i 1 : Nat) : Int), ((way v x.2.1.toNat i 2 : Nat) : Int), (i : Int))) a.length (fun i => sat a f x.2.2.toNat (updN v x.2.1.toNat i) s) (j := d) (r := (true, d))
      (fun i hi hq => ?_) (fun i hi hq => ?_) ?_
    · unfold F_impl_judge_some
      rw [if_pos h, show lp _ (d, ((v 0 : Nat) : Int), ((v 1 : Nat) : Int), ((v 2 : Nat) : Int), (0 : Int)) = _ from key, sat7 hx h (by omega)]
      cases (List.range a.length).any fun i => sat a f x.2.2.toNat (updN v x.2.1.toNat i) s <;> rfl
    all_goals simp only [F_impl_judge_some_l1]
    · rw [if_pos (by rw [hd, bvs_len]; omega), idx3 _ a0 a1, if30 _ i a0, if31 _ i a0, if32 _ i a0, way_set, way_upd, cal_of (call _ _ s b0 b1 (hr.v hi)), if_neg (by rw [hq]; simp), ck_of (inI (by omega) (by omega))]; rfl
    · rw [if_pos (by rw [hd, bvs_len]; omega), idx3 _ a0 a1, if30 _ i a0, if31 _ i a0, if32 _ i a0, way_set, way_upd, cal_of (call _ _ s b0 b1 (hr.v hi)), if_pos hq]
    · rw [if_neg (by rw [hd, bvs_len]; omega)]
  | exs h a0 a1 b0 b1 =>
    rw [if_neg (by omega), if_neg (by omega), if_neg (by omega), if_neg (by omega), if_neg (by omega), if_neg (by omega)]
    have key := lp_anyG (step := fun t => F_impl_judge_some_l3 x.2.1 x.2.2 (v 0 : Nat) (v 1 : Nat) (v 2 : Nat) rc t.1 t.2.1 t.2.2.1 t.2.2.2)
      (fun i => (d, bw (way s x.2.1.toNat i 0), bw (way s x.2.1.toNat i 1), bw i)) (2 ^ a.length) (fun i => sat a f x.2.2.toNat v (updN s x.2.1.toNat i)) (j := d) (r := (true, d))
      (fun i hi hq => ?_) (fun i hi hq => ?_) ?_
    · unfold F_impl_judge_some
      rw [if_neg (by omega), show lp _ (d, bw (s 0), bw (s 1), 0#32) = _ from key, sat8 hx h (by omega)]
      cases (List.range (2 ^ a.length)).any fun i => sat a f x.2.2.toNat v (updN s x.2.1.toNat i) <;> rfl
    all_goals
      simp only [F_impl_judge_some_l3]
      rw [hd, cal_of (all_eq (by omega))]
    · rw [if_pos ((bw_le (by omega) (by omega)).2 (by omega)), idx2b _ a0 a1, if20 _ i a0, if21 _ i a0, way_set, way_upd, cal_of (call _ v _ b0 b1 (hr.s hi)), if_neg (by rw [hq]; simp), bw_succ]
    · rw [if_pos ((bw_le (by omega) (by omega)).2 (by omega)), idx2b _ a0 a1, if20 _ i a0, if21 _ i a0, way_set, way_upd, cal_of (call _ v _ b0 b1 (hr.s hi)), if_pos hq]
    · rw [if_neg (fun h => by have := (bw_le (by omega) (by omega)).1 h; omega)]
theorem judge_eq (hd : d.1 = bvs a) (hdf : d.2.1 = f) (hfr : FrI f f.length d.2.2.1) (hlg : d.2.2.2.length = f.length) (hf : formulaOk f = true) (ha : a.length ≤ 8) (hb : ∀ v (h : v < a.length), a[v] < 2 ^ 16) :
    ∀ (k : Nat) (v s : Nat → Nat), k < f.length → InR a.length v s → F_judge d (k : Int) (v 0 : Nat) (v 1 : Nat) (v 2 : Nat) (bw (s 0)) (bw (s 1)) = some (sat a f k v s, d) := by
  intro k
  induction k using Nat.strongRecOn with
  | _ k ih =>
    intro v s hk hr
    obtain ⟨x, hx⟩ : ∃ x, f[k]? = some x := ⟨_, List.getElem?_eq_getElem hk⟩
    have call : ∀ (y : Int) (v' s' : Nat → Nat), 0 ≤ y → y ≤ k - 1 → InR a.length v' s' → R_judge d (k : Int) d y (v' 0 : Nat) (v' 1 : Nat) (v' 2 : Nat) (bw (s' 0)) (bw (s' 1)) = some (sat a f y.toNat v' s', d) := fun y v' s' h0 h1 hr' => by
      have := ih y.toNat (by omega) v' s' (by omega) hr'
      rw [Int.toNat_of_nonneg h0] at this
      unfold R_judge
      rw [if_pos ⟨rfl, h0, by omega⟩, this]
    have hfl := hfr.1
    have long : F_impl_judge_holds_k1 d (k : Int) (v 0 : Nat) (v 1 : Nat) (v 2 : Nat) (bw (s 0)) (bw (s 1)) (R_judge d (k : Int)) x = some (sat a f k v s, d) := by
      unfold F_impl_judge_holds_k1
      rw [cal_of (relevant_eq (by omega) v s)]
      have hr' : InR a.length (rvN d.2.2.1 k v) (rsN d.2.2.1 k s) := ⟨fun i => by have := hr.1 i; unfold rvN; split <;> omega, fun i => by have := hr.2 i; unfold rsN; split <;> omega⟩
      simp only
      rw [cal_of (direct_eq hd hf ha hb hk hr' hx call)]
      rw [sat_agree hf hfr k _ _ v s hk (fun i hi h => by unfold rvN; rw [if_pos h]) (fun i hi h => by unfold rsN; rw [if_pos h])]
    rw [F_judge_eq]
    unfold F_impl_judge_holds
    rw [idx_of (Int.natCast_nonneg _) (by rw [hdf, Int.toNat_natCast]; exact hx)]
    by_cases h7 : x.1 = 7
    · rw [if_neg (by simp [h7]), bnd_inl_eq, long]
    rw [if_pos h7]
    by_cases h8 : x.1 = 8
    · rw [if_neg (by simp [h8]), bnd_inl_eq, long]
    rw [if_pos h8, idx_nat (by omega)]
    by_cases hl : d.2.2.2[k]'(by omega) = true
    · rw [if_neg (by simp [hl]), bnd_inl_eq, long]
    rw [if_pos hl, cal_of (direct_eq hd hf ha hb hk hr hx call)]; rfl
end
end Go.Proofs.Ytjcnkijmbjhcnaa

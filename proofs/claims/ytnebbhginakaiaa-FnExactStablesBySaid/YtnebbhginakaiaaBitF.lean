/- Sets of vertices in the program (32 bits) and in the reference (64 bits with a sign): both are the same natural number. -/
import Derived.Test.YtnebbhginakaiaaF
import Derived.Test.YtnebbhginakaiaaBitset
import Derived.Test.YtnebbhginakaiaaFold
import Derived.Test.YtnebbhginakaiaaGraph
namespace Go.Proofs.Ytnebbhginakaiaa
def ints (l : List Nat) : List Int := l.map fun (v : Nat) => (v : Int)
def bvs (l : List Nat) : List (BitVec 32) := l.map (BitVec.ofNat 32)
def nb (g : List (List Int)) : List Nat := g.map mk
theorem bvs_len (l : List Nat) : (bvs l).length = l.length := by simp [bvs]
theorem nb_len (g : List (List Int)) : (nb g).length = g.length := by simp [nb]
theorem bvs_get {l : List Nat} {k : Nat} (h : k < (bvs l).length) : (bvs l)[k] = BitVec.ofNat 32 (l[k]'(by simpa [bvs] using h)) := by simp [bvs]
theorem idx_bvs {β : Type} {l : List Nat} {k : Nat} {f : BitVec 32 → Option β} (h : k < l.length) : idx (bvs l) (k : Int) f = f (BitVec.ofNat 32 l[k]) := by
  rw [idx_nat (by rw [bvs_len]; exact h), bvs_get]
/-! ## good graphs -/
theorem GOk.row_mem {g : List (List Int)} (hg : GOk g) {v : Nat} (h : v < g.length) {x : Int} (hx : x ∈ g[v]) : 0 ≤ x ∧ x < g.length := (hg.rows v h).1.mem hx
theorem nb_lt {g : List (List Int)} (hg : GOk g) {v : Nat} (h : v < (nb g).length) : (nb g)[v] < 2 ^ g.length := by
  have h' : v < g.length := by rwa [nb_len] at h
  have : (nb g)[v] = mk g[v] := by simp [nb]
  rw [this]
  exact mk_lt fun x hx => hg.row_mem h' hx
theorem pow16 {n : Nat} (h : n ≤ 16) : 2 ^ n ≤ 2 ^ 16 := Nat.pow_le_pow_right (by decide) h
theorem nb_lt16 {g : List (List Int)} (hg : GOk g) {v : Nat} (h : v < (nb g).length) : (nb g)[v] < 2 ^ 16 := Nat.lt_of_lt_of_le (nb_lt hg h) (pow16 hg.n16)
theorem Rises.lt {s : List Int} {n : Nat} (h : Rises s n) : mk s < 2 ^ n := mk_lt fun v hv => by have := h.mem hv; omega
theorem GOk.row_len {g : List (List Int)} (hg : GOk g) {v : Nat} (h : v < g.length) : g[v].length ≤ 16 := by
  have h1 := (hg.rows v h).1.len (by omega)
  have h2 := hg.n16
  omega
theorem Rises.len16 {s : List Int} {n : Nat} (h : Rises s n) (hn : n ≤ 16) : s.length ≤ 16 := by have := h.len (by omega); omega
theorem one_eq {v : Nat} (h : v < 32) : F_impl_one (v : Int) = some (BitVec.ofNat 32 (2 ^ v)) := by
  unfold F_impl_one; rw [grd_of (Int.natCast_nonneg _), Int.toNat_natCast, bv_shl h]
theorem maskOf_eq {s : List Int} (h : ∀ v ∈ s, 0 ≤ v ∧ v < 32) (hl : s.length ≤ 1048576) : F_impl_maskOf s = some (BitVec.ofNat 32 (mk s)) := by
  unfold F_impl_maskOf
  have key := lp_fold (step := fun s' => F_impl_maskOf_l1 s s'.1 s'.2) s (fun b v => b ||| BitVec.ofNat 32 (2 ^ v.toNat)) 0#32 (fun _ => True) (o := .inl (BitVec.ofNat 32 (mk s))) trivial (fun k hk a _ => ⟨?_, trivial⟩) ?_
  · rw [bnd_l key]; rfl
  · have hm := h _ (List.getElem_mem hk)
    obtain ⟨m, hm2⟩ := Int.eq_ofNat_of_zero_le hm.1
    simp only [F_impl_maskOf_l1]
    rw [if_pos (by omega), idx_nat hk, hm2, one_eq (by omega), cal_some_eq, ck_of (inI (by omega) (by omega))]; rfl
  · intro a ha
    simp only [F_impl_maskOf_l1]
    have e : ∀ (s : List Int) (b : Nat), s.foldl (fun b v => b ||| BitVec.ofNat 32 (2 ^ v.toNat)) (BitVec.ofNat 32 b) = BitVec.ofNat 32 (s.foldl (fun (b : Nat) (v : Int) => b ||| 2 ^ v.toNat) b) := by
      intro s
      induction s with
      | nil => intro b; rfl
      | cons v s ih => intro b; rw [List.foldl_cons, List.foldl_cons, bv_or, ih]
    rw [if_neg (by omega), ha]
    have := e s 0
    rw [this]; rfl
theorem netsOf_eq {g : List (List Int)} (hg : GOk g) : F_impl_netsOf g = some (bvs (nb g)) := by
  unfold F_impl_netsOf
  have h16 := hg.n16
  have key := lp_map (step := fun s' => F_impl_netsOf_l1 g s'.1 s'.2) g (fun r => BitVec.ofNat 32 (mk r)) (o := .inl (bvs (nb g))) (fun k hk l hl => ?_) ?_
  · rw [bnd_l key]; rfl
  · have hr := hg.row_len hk
    simp only [F_impl_netsOf_l1]
    rw [if_pos (by omega), idx_nat hk, maskOf_eq (fun v hv => by have := hg.row_mem hk hv; omega) (by omega), cal_some_eq, app1_s (by omega), ck_of (inI (by omega) (by omega))]; rfl
  · simp only [F_impl_netsOf_l1]
    rw [if_neg (by omega)]
    have : List.map (fun r => BitVec.ofNat 32 (mk r)) g = bvs (nb g) := by simp [bvs, nb]
    rw [this]
theorem l25Mask_eq {s : List Int} (h : ∀ v ∈ s, 0 ≤ v ∧ v < 62) (hl : s.length ≤ 1048576) : F_spec_l25Mask s = some (mk s : Int) := by
  unfold F_spec_l25Mask
  have key := lp_fold (step := fun s' => F_spec_l25Mask_l1 s s'.1 s'.2) s (fun b v => i64or b (1 * 2 ^ v.toNat)) 0 (fun a => ∃ n : Nat, n < 2 ^ 62 ∧ a = n) (o := .inl (mk s : Int)) ⟨0, by decide, rfl⟩ (fun k hk a hp => ?_) ?_
  · rw [bnd_l key]; rfl
  · have hm := h _ (List.getElem_mem hk)
    obtain ⟨m, hm2⟩ := Int.eq_ofNat_of_zero_le hm.1
    obtain ⟨n, hn, rfl⟩ := hp
    have hp : 2 ^ m < 2 ^ 62 := Nat.pow_lt_pow_right (by decide) (by omega)
    simp only [F_spec_l25Mask_l1]
    rw [if_pos (by omega), idx_nat hk, hm2, grd_of (Int.natCast_nonneg _), Int.toNat_natCast, two_pow_nat, ck_of (inI_nat hp), ck_of (inI (by omega) (by omega))]
    exact ⟨rfl, n ||| 2 ^ m, or_lt hn hp, i64or_nat (by omega) (by omega)⟩
  · intro a ha
    simp only [F_spec_l25Mask_l1]
    have e : ∀ (s : List Int) (b : Nat), b < 2 ^ 62 → (∀ v ∈ s, 0 ≤ v ∧ v < 62) → s.foldl (fun b v => i64or b (1 * 2 ^ v.toNat)) (b : Int) = ((s.foldl (fun (b : Nat) (v : Int) => b ||| 2 ^ v.toNat) b : Nat) : Int) := by
      intro s
      induction s with
      | nil => intro b _ _; rfl
      | cons v s ih =>
        intro b hb hv
        have h1 := hv v (List.mem_cons_self ..)
        have hp : 2 ^ v.toNat < 2 ^ 62 := Nat.pow_lt_pow_right (by decide) (by omega)
        rw [List.foldl_cons, List.foldl_cons, two_pow_nat, i64or_nat (by omega) (by omega), ih _ (or_lt hb hp) (fun w hw => hv w (List.mem_cons_of_mem _ hw))]
    rw [if_neg (by omega), ha]
    have := e s 0 (by decide) h
    rw [show (0 : Int) = ((0 : Nat) : Int) from rfl, this]; rfl
theorem l25Bits_eq {g : List (List Int)} (hg : GOk g) : F_spec_l25Bits g = some (ints (nb g)) := by
  unfold F_spec_l25Bits
  have h16 := hg.n16
  have key := lp_map (step := fun s' => F_spec_l25Bits_l1 g s'.1 s'.2) g (fun r => ((mk r : Nat) : Int)) (o := .inl (ints (nb g))) (fun k hk l hl => ?_) ?_
  · rw [bnd_l key]; rfl
  · have hr := hg.row_len hk
    have h : ∀ v ∈ g[k], 0 ≤ v ∧ v < 62 := fun v hv => by have := hg.row_mem hk hv; omega
    have inner := lp_fold (step := fun s' => F_spec_l25Bits_l2 g (k : Int) s'.1 s'.2) g[k] (fun b v => i64or b (1 * 2 ^ v.toNat)) 0 (fun a => ∃ n : Nat, n < 2 ^ 62 ∧ a = n) (o := .inl (mk g[k] : Int)) ⟨0, by decide, rfl⟩ (fun j hj a hp => ?_) ?_
    · simp only [F_spec_l25Bits_l1]
      rw [if_pos (by omega), inner, bnd_inl_eq]
      unfold F_spec_l25Bits_k3
      rw [app1_s (by omega), ck_of (inI (by omega) (by omega))]; rfl
    · have hm := h _ (List.getElem_mem hj)
      obtain ⟨m, hm2⟩ := Int.eq_ofNat_of_zero_le hm.1
      obtain ⟨n, hn, rfl⟩ := hp
      have hp : 2 ^ m < 2 ^ 62 := Nat.pow_lt_pow_right (by decide) (by omega)
      simp only [F_spec_l25Bits_l2]
      rw [idx_nat hk, if_pos (by omega), idx_nat hk, idx_nat hj, hm2, grd_of (Int.natCast_nonneg _), Int.toNat_natCast, two_pow_nat, ck_of (inI_nat hp), ck_of (inI (by omega) (by omega))]
      exact ⟨rfl, n ||| 2 ^ m, or_lt hn hp, i64or_nat (by omega) (by omega)⟩
    · intro a ha
      simp only [F_spec_l25Bits_l2]
      have e : ∀ (s : List Int) (b : Nat), b < 2 ^ 62 → (∀ v ∈ s, 0 ≤ v ∧ v < 62) → s.foldl (fun b v => i64or b (1 * 2 ^ v.toNat)) (b : Int) = ((s.foldl (fun (b : Nat) (v : Int) => b ||| 2 ^ v.toNat) b : Nat) : Int) := by
        intro s
        induction s with
        | nil => intro b _ _; rfl
        | cons v s ih =>
          intro b hb hv
          have h1 := hv v (List.mem_cons_self ..)
          have hp : 2 ^ v.toNat < 2 ^ 62 := Nat.pow_lt_pow_right (by decide) (by omega)
          rw [List.foldl_cons, List.foldl_cons, two_pow_nat, i64or_nat (by omega) (by omega), ih _ (or_lt hb hp) (fun w hw => hv w (List.mem_cons_of_mem _ hw))]
      rw [idx_nat hk, if_neg (by omega), ha]
      have := e g[k] 0 (by decide) h
      rw [show (0 : Int) = ((0 : Nat) : Int) from rfl, this]; rfl
  · simp only [F_spec_l25Bits_l1]
    rw [if_neg (by omega)]
    have : List.map (fun r => ((mk r : Nat) : Int)) g = ints (nb g) := by simp [ints, nb]
    rw [this]
theorem has_eq {n v : Nat} (hn : n < 2 ^ 32) (hv : v < 32) : F_impl_vset_has (BitVec.ofNat 32 n) (v : Int) = some (n.testBit v) := by
  unfold F_impl_vset_has
  rw [grd_of (Int.natCast_nonneg _), Int.toNat_natCast]
  congr 1
  rw [Bool.eq_iff_iff, decide_eq_true_iff]
  have e : (BitVec.ofNat 32 n >>> v &&& 1#32).toNat = n / 2 ^ v % 2 := by
    rw [BitVec.toNat_and, BitVec.toNat_ushiftRight, bv_toNat hn, Nat.shiftRight_eq_div_pow]
    exact Nat.and_one_is_mod _
  have h1 : (BitVec.ofNat 32 n >>> v &&& 1#32 = 1#32) ↔ n / 2 ^ v % 2 = 1 := by
    rw [← e]
    exact ⟨fun h => by rw [h]; rfl, fun h => BitVec.eq_of_toNat_eq h⟩
  rw [h1, Nat.testBit_eq_decide_div_mod_eq, decide_eq_true_iff]
end Go.Proofs.Ytnebbhginakaiaa

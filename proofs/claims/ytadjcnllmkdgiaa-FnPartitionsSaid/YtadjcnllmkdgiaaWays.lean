/- In how many ways a graph's vertices go into stable sets. -/
import Derived.Test.YtadjcnllmkdgiaaColour
namespace Go.Proofs.Ytadjcnllmkdgiaa
/-- into a set that there is, where it stays stable, or into a new one; told by how many there are in the end -/
def waysF (a : List Nat) : Nat → List Nat → List Int → List Int
  | 0, L, o => o.set L.length (o.getD L.length 0 + 1)
  | m + 1, L, o => waysF a m (L ++ [2 ^ (a.length - (m + 1))]) ((List.range L.length).foldl (fun o i => if L.getD i 0 &&& a.getD (a.length - (m + 1)) 0 = 0 then waysF a m (L.set i (L.getD i 0 ||| 2 ^ (a.length - (m + 1)))) o else o) o)
def AllLe (o : List Int) (N : Int) : Prop := ∀ x ∈ o, 0 ≤ x ∧ x ≤ N
theorem AllLe.mono {o : List Int} {N M : Int} (h : AllLe o N) (hm : N ≤ M) : AllLe o M := fun x hx => by have := h x hx; omega
theorem foldl_inv {α β : Type} {f : β → α → β} {P : Nat → β → Prop} : ∀ (l : List α) (k : Nat) (b : β), P k b → (∀ (j : Nat) (x : α) (b : β), x ∈ l → P j b → P (j + 1) (f b x)) → P (k + l.length) (l.foldl f b)
  | [], k, b, h, _ => h
  | x :: l, k, b, h, hs => by
    have := foldl_inv l (k + 1) (f b x) (hs k x b (List.mem_cons_self ..) h) (fun j y b hy => hs j y b (List.mem_cons_of_mem _ hy))
    rw [List.foldl_cons, List.length_cons, show k + (l.length + 1) = k + 1 + l.length by omega]; exact this
def nine (m : Nat) : Nat := 9 ^ m
theorem nine_succ (m : Nat) : nine (m + 1) = 9 * nine m := by unfold nine; rw [Nat.pow_succ, Nat.mul_comm]
theorem nine_pos (m : Nat) : 0 < nine m := Nat.pow_pos (by decide)
theorem nine_le {m : Nat} (h : m ≤ 8) : nine m ≤ 43046721 := Nat.le_trans (Nat.pow_le_pow_right (by decide) h) (by decide)
theorem waysF_ok {a : List Nat} : ∀ {m : Nat} {L : List Nat} {o : List Int} {N : Int}, L.length + m ≤ 8 → AllLe o N → 0 ≤ N → AllLe (waysF a m L o) (N + nine m) ∧ (waysF a m L o).length = o.length
  | 0, L, o, N, hL, hb, hN => by
    refine ⟨fun x hx => ?_, by simp [waysF]⟩
    have e : nine 0 = 1 := rfl
    rw [e]
    rw [waysF] at hx
    rcases List.mem_or_eq_of_mem_set hx with h | h
    · have := hb x h; omega
    · rw [h]
      by_cases hl : L.length < o.length
      · have := hb _ (List.getElem_mem hl)
        rw [show o.getD L.length 0 = o[L.length] by simp [hl]]; omega
      · rw [show o.getD L.length 0 = 0 by simp; rw [List.getElem?_eq_none (by omega)]; rfl]; omega
  | m + 1, L, o, N, hL, hb, hN => by
    rw [waysF]
    have hn := nine_pos m
    have h := foldl_inv (P := fun j o' => AllLe o' (N + j * nine m) ∧ o'.length = o.length) (f := fun o i => if L.getD i 0 &&& a.getD (a.length - (m + 1)) 0 = 0 then waysF a m (L.set i (L.getD i 0 ||| 2 ^ (a.length - (m + 1)))) o else o) (List.range L.length) 0 o ⟨by simpa using hb, rfl⟩ (fun j i o' _ ho => ?_)
    · rw [List.length_range, Nat.zero_add] at h
      have h9 : (L.length : Int) * (nine m : Int) ≤ 8 * (nine m : Int) := Int.mul_le_mul_of_nonneg_right (by omega) (by omega)
      have h0 : 0 ≤ (L.length : Int) * (nine m : Int) := Int.mul_nonneg (by omega) (by omega)
      have h2 := waysF_ok (a := a) (m := m) (L := L ++ [2 ^ (a.length - (m + 1))]) (by rw [List.length_append, List.length_singleton]; omega) h.1 (by omega)
      refine ⟨h2.1.mono ?_, h2.2.trans h.2⟩
      rw [nine_succ]; omega
    · have h0 : 0 ≤ (j : Int) * (nine m : Int) := Int.mul_nonneg (by omega) (by omega)
      have e : ((j + 1 : Nat) : Int) * (nine m : Int) = (j : Int) * (nine m : Int) + nine m := by rw [Int.natCast_add, Int.add_mul]; omega
      rw [e]
      split
      · have h2 := waysF_ok (a := a) (m := m) (L := L.set i (L.getD i 0 ||| 2 ^ (a.length - (m + 1)))) (by rw [List.length_set]; omega) ho.1 (by omega)
        exact ⟨h2.1.mono (by omega), h2.2.trans ho.2⟩
      · exact ⟨ho.1.mono (by omega), ho.2⟩
/-- the fold's part -/
def waysTo (a : List Nat) (m : Nat) (L : List Nat) (o : List Int) (k : Nat) : List Int := (List.range k).foldl (fun o i => if L.getD i 0 &&& a.getD (a.length - (m + 1)) 0 = 0 then waysF a m (L.set i (L.getD i 0 ||| 2 ^ (a.length - (m + 1)))) o else o) o
theorem waysTo_succ (a : List Nat) (m : Nat) (L : List Nat) (o : List Int) (k : Nat) : waysTo a m L o (k + 1) = if L.getD k 0 &&& a.getD (a.length - (m + 1)) 0 = 0 then waysF a m (L.set k (L.getD k 0 ||| 2 ^ (a.length - (m + 1)))) (waysTo a m L o k) else waysTo a m L o k := by
  unfold waysTo; rw [List.range_succ, List.foldl_append]; rfl
theorem waysTo_ok {a : List Nat} {m : Nat} {L : List Nat} {o : List Int} {N : Int} (hL : L.length + m ≤ 8) (hb : AllLe o N) (hN : 0 ≤ N) : ∀ k, AllLe (waysTo a m L o k) (N + k * nine m) ∧ (waysTo a m L o k).length = o.length
  | 0 => ⟨by simpa [waysTo] using hb, rfl⟩
  | k + 1 => by
    have ho := waysTo_ok (a := a) hL hb hN k
    have hn := nine_pos m
    have h0 : 0 ≤ (k : Int) * (nine m : Int) := Int.mul_nonneg (by omega) (by omega)
    have e : ((k + 1 : Nat) : Int) * (nine m : Int) = (k : Int) * (nine m : Int) + nine m := by rw [Int.natCast_add, Int.add_mul]; omega
    rw [waysTo_succ, e]
    split
    · have h2 := waysF_ok (a := a) (m := m) (L := L.set k (L.getD k 0 ||| 2 ^ (a.length - (m + 1)))) (by rw [List.length_set]; omega) ho.1 (by omega)
      exact ⟨h2.1.mono (by omega), h2.2.trans ho.2⟩
    · exact ⟨ho.1.mono (by omega), ho.2⟩
/-- what a call of the search begins with: v vertices in stable sets -/
structure WIn (n v : Nat) (L : List Nat) (o : List Int) : Prop where
  n8 : n ≤ 8
  vn : v ≤ n
  lv : L.length ≤ v
  sets : ∀ (i : Nat) (h : i < L.length), L[i] < 2 ^ v
  len : o.length = n + 1
  small : AllLe o (1000000000 - nine (n - v))
theorem WIn.fit {n v : Nat} {L : List Nat} {o : List Int} (h : WIn n v L o) (hv : v < n) {k : Nat} (hk : k < L.length) {a : List Nat} (ha : a.length = n) {m : Nat} (hm : n - v = m + 1) : WIn n (v + 1) (L.set k (L[k] ||| 2 ^ v)) (waysTo a m L o k) := by
  obtain ⟨n8, vn, lv, sets, len, small⟩ := h
  have h9 := nine_le (m := n - v) (by omega)
  have ho := waysTo_ok (a := a) (m := m) (show L.length + m ≤ 8 by omega) small (by omega) k
  have hn := nine_pos m
  refine ⟨n8, by omega, by rw [List.length_set]; omega, fun i hi => ?_, ho.2.trans len, ?_⟩
  · rw [List.getElem_set]
    have h2 : 2 ^ v < 2 ^ (v + 1) := Nat.pow_lt_pow_right (by decide) (by omega)
    split
    · exact or_lt (Nat.lt_trans (sets k hk) h2) h2
    · rw [List.length_set] at hi; exact Nat.lt_trans (sets i hi) h2
  · refine ho.1.mono ?_
    have : (k : Int) * (nine m : Int) ≤ 7 * (nine m : Int) := Int.mul_le_mul_of_nonneg_right (by omega) (by omega)
    rw [hm, nine_succ, show n - (v + 1) = m by omega]; omega
theorem WIn.new {n v : Nat} {L : List Nat} {o : List Int} (h : WIn n v L o) (hv : v < n) {a : List Nat} (ha : a.length = n) {m : Nat} (hm : n - v = m + 1) : WIn n (v + 1) (L ++ [2 ^ v]) (waysTo a m L o L.length) := by
  obtain ⟨n8, vn, lv, sets, len, small⟩ := h
  have h9 := nine_le (m := n - v) (by omega)
  have ho := waysTo_ok (a := a) (m := m) (show L.length + m ≤ 8 by omega) small (by omega) L.length
  have hn := nine_pos m
  refine ⟨n8, by omega, by rw [List.length_append, List.length_singleton]; omega, fun i hi => ?_, ho.2.trans len, ?_⟩
  · have h2 : 2 ^ v < 2 ^ (v + 1) := Nat.pow_lt_pow_right (by decide) (by omega)
    rw [List.getElem_append]
    split
    · rename_i h; exact Nat.lt_trans (sets i h) h2
    · rw [List.getElem_singleton]; exact h2
  · refine ho.1.mono ?_
    have : (L.length : Int) * (nine m : Int) ≤ 7 * (nine m : Int) := Int.mul_le_mul_of_nonneg_right (by omega) (by omega)
    rw [hm, nine_succ, show n - (v + 1) = m by omega]; omega
theorem WIn.at {n v : Nat} {L : List Nat} {o : List Int} (h : WIn n v L o) : ∃ x, o[L.length]? = some x ∧ o.getD L.length 0 = x ∧ 0 ≤ x ∧ x ≤ 1000000000 := by
  have hl : L.length < o.length := by have := h.len; have := h.lv; have := h.vn; omega
  have := h.small _ (List.getElem_mem hl)
  have hn := nine_pos (n - v)
  exact ⟨o[L.length], List.getElem?_eq_getElem hl, by simp [hl], this.1, by omega⟩
theorem l1Copy_eq2 {l : List Int} (h : l.length ≤ 1048576) : F_spec_l1Copy l = some l := by
  unfold F_spec_l1Copy
  rw [app_s (by simp; omega)]; rfl
theorem l26Ways_eq {a : List Nat} (hb : ∀ v (h : v < a.length), a[v] < 2 ^ 16) (v : Nat) (L : List Nat) (o : List Int) (hI : WIn a.length v L o) :
    F_spec_l26Ways (ints a) (v : Int) (ints L) o = some (waysF a (a.length - v) L o) := by
  refine fixO_ind (J := Nat × List Nat × List Int) (fun j => (ints a, (j.1 : Int), ints j.2.1, j.2.2)) (fun j => a.length - j.1) (fun j => waysF a (a.length - j.1) j.2.1 j.2.2) (fun j => WIn a.length j.1 j.2.1 j.2.2) ?_ (v, L, o) hI
  rintro R ⟨v, L, o⟩ hI ih
  simp only at hI ⊢
  have h8 := hI.n8
  have hvn := hI.vn
  have hlv := hI.lv
  unfold F_spec_l26Ways_body
  rw [ints_len, ints_len]
  by_cases e : v = a.length
  · obtain ⟨x, hx, hg, h0, h1⟩ := hI.at
    rw [if_pos (by omega), idx_of (Int.natCast_nonneg _) (by rw [Int.toNat_natCast]; exact hx), ck_of (inI (by omega) (by omega)), idx_of (Int.natCast_nonneg _) (by rw [Int.toNat_natCast]; exact hx), Int.toNat_natCast, e, Nat.sub_self, waysF, hg]
  · rw [if_neg (by omega)]
    have hlt : v < a.length := by omega
    obtain ⟨m, hm⟩ : ∃ m, a.length - v = m + 1 := ⟨a.length - v - 1, by omega⟩
    have hvm : a.length - (m + 1) = v := by omega
    have hgv := getD_get hlt
    have hav := hb _ hlt
    have hp := pow16 (n := v) (by omega)
    have h2v : 2 ^ v < 2 ^ 62 := by omega
    have key : lp (fun s => F_spec_l26Ways_l1 (ints a) (v : Int) (ints L) (fun z0 z1 z2 z3 => R (z0, z1, z2, z3)) s.1 s.2) (o, 0) = some (.inl (waysTo a m L o L.length)) := by
      refine lp_nums L.length (fun k => waysTo a m L o k) (fun k hk => ?_) ?_
      · simp only [F_spec_l26Ways_l1]
        have hLk := hI.sets k hk
        have hgk := getD_get hk
        rw [if_pos (by rw [ints_len]; omega), idx_ints hk, idx_ints hlt, i64and_nat (by omega) (by omega), waysTo_succ, hvm, hgk, hgv]
        by_cases hz : L[k] &&& a[v] = 0
        · have hr := ih (v + 1, L.set k (L[k] ||| 2 ^ v), waysTo a m L o k) (hI.fit hlt hk rfl hm) (by simp only; omega)
          simp only at hr
          rw [show a.length - (v + 1) = m by omega] at hr
          rw [if_pos (by omega), if_pos hz, cal_of (l1Copy_eq2 (by rw [ints_len]; omega)), idx_ints hk, grd_of (Int.natCast_nonneg _), Int.toNat_natCast, two_pow_nat, ck_of (inI_nat h2v), idx_ints hk, ck_of (inI (by omega) (by omega)), i64or_nat (by omega) (by omega), Int.toNat_natCast, ints_put,
            show (v : Int) + 1 = ((v + 1 : Nat) : Int) by omega, cal_of hr, ck_of (inI (by omega) (by omega))]; rfl
        · rw [if_neg (by omega), if_neg hz, ck_of (inI (by omega) (by omega))]; rfl
      · simp only [F_spec_l26Ways_l1]
        rw [ints_len, if_neg (by omega)]
    rw [bnd_l key]
    unfold F_spec_l26Ways_k2
    have hr := ih (v + 1, L ++ [2 ^ v], waysTo a m L o L.length) (hI.new hlt rfl hm) (by simp only; omega)
    simp only at hr
    rw [show a.length - (v + 1) = m by omega] at hr
    rw [ck_of (inI (by omega) (by omega)), cal_of (l1Copy_eq2 (by rw [ints_len]; omega)), grd_of (Int.natCast_nonneg _), Int.toNat_natCast, two_pow_nat, ck_of (inI_nat h2v), app1_s (by rw [ints_len]; omega), ints_snoc, show (v : Int) + 1 = ((v + 1 : Nat) : Int) by omega, cal_of hr, hm, waysF, hvm]
    unfold waysTo
    rw [hvm]
theorem cloneV_eq {l : List (BitVec 32)} (h : l.length ≤ 1048576) : F_slices_Clone_implvset l = some l := by
  unfold F_slices_Clone_implvset
  rw [app_s (by simp; omega)]; rfl
theorem put_back {L : List Nat} {k v : Nat} (hk : k < L.length) (hL : L[k] < 2 ^ v) : (L.set k (L[k] ||| 2 ^ v)).set k (sdiff (L[k] ||| 2 ^ v) (2 ^ v)) = L := by
  have e : sdiff (L[k] ||| 2 ^ v) (2 ^ v) = L[k] := by
    apply bits_ext; intro j
    rw [delbit_bit, Nat.testBit_or, Nat.testBit_two_pow]
    by_cases e : v = j
    · subst e; rw [Nat.testBit_lt_two_pow hL]; simp
    · simp [e]
  rw [e, List.set_set]
  exact List.set_getElem_self _
theorem countPartitions_eq {a : List Nat} (hb : ∀ v (h : v < a.length), a[v] < 2 ^ 16) (v : Nat) (L : List Nat) (o : List Int) (hI : WIn a.length v L o) :
    F_impl_countPartitions (bvs a) (v : Int) (bvs L) o = some (bvs L, waysF a (a.length - v) L o) := by
  refine fixO_ind (J := Nat × List Nat × List Int) (fun j => (bvs a, (j.1 : Int), bvs j.2.1, j.2.2)) (fun j => a.length - j.1) (fun j => (bvs j.2.1, waysF a (a.length - j.1) j.2.1 j.2.2)) (fun j => WIn a.length j.1 j.2.1 j.2.2) ?_ (v, L, o) hI
  rintro R ⟨v, L, o⟩ hI ih
  simp only at hI ⊢
  have h8 := hI.n8
  have hvn := hI.vn
  have hlv := hI.lv
  unfold F_impl_countPartitions_body
  rw [bvs_len, bvs_len]
  by_cases e : v = a.length
  · obtain ⟨x, hx, hg, h0, h1⟩ := hI.at
    rw [if_pos (by omega), idx_of (Int.natCast_nonneg _) (by rw [Int.toNat_natCast]; exact hx), ck_of (inI (by omega) (by omega)), idx_of (Int.natCast_nonneg _) (by rw [Int.toNat_natCast]; exact hx), Int.toNat_natCast, e, Nat.sub_self, waysF, hg]
  · rw [if_neg (by omega)]
    have hlt : v < a.length := by omega
    obtain ⟨m, hm⟩ : ∃ m, a.length - v = m + 1 := ⟨a.length - v - 1, by omega⟩
    have hvm : a.length - (m + 1) = v := by omega
    have hgv := getD_get hlt
    have hav := hb _ hlt
    have hp := pow16 (n := v) (by omega)
    have hp1 := pow16 (n := v + 1) (by omega)
    have key : lp (fun s => F_impl_countPartitions_l1 (bvs a) (v : Int) (bvs L) (fun z0 z1 z2 z3 => R (z0, z1, z2, z3)) s.1 s.2.1 s.2.2) (bvs L, o, 0) = some (.inl (bvs L, waysTo a m L o L.length)) := by
      refine lp_upto (fun k => (bvs L, waysTo a m L o k, (k : Int))) L.length rfl (fun k hk => ?_) ?_
      · simp only [F_impl_countPartitions_l1]
        have hLk := hI.sets k hk
        have hgk := getD_get hk
        have hand := and_lt (b := a[v]) hLk
        rw [if_pos (by rw [bvs_len]; omega), idx_bvs hk, idx_bvs hlt, bv_and, waysTo_succ, hvm, hgk, hgv]
        by_cases hz : L[k] &&& a[v] = 0
        · have hr := ih (v + 1, L.set k (L[k] ||| 2 ^ v), waysTo a m L o k) (hI.fit hlt hk rfl hm) (by simp only; omega)
          simp only at hr
          rw [show a.length - (v + 1) = m by omega] at hr
          have hor : L[k] ||| 2 ^ v < 2 ^ (v + 1) := or_lt (Nat.lt_trans hLk (Nat.pow_lt_pow_right (by decide) (by omega))) (Nat.pow_lt_pow_right (by decide) (by omega))
          rw [if_pos (by rw [hz]), if_pos hz, idx_bvs hk, cal_of (one_eq (by omega)), idx_bvs hk, ck_of (inI (by omega) (by omega)), bv_or, Int.toNat_natCast, bvs_put,
            show (v : Int) + 1 = ((v + 1 : Nat) : Int) by omega, cal_of hr]
          simp only
          rw [idx_bvs (by rw [List.length_set]; exact hk), cal_of (one_eq (by omega)), idx_bvs (by rw [List.length_set]; exact hk), ck_of (inI (by omega) (by omega)), List.getElem_set_self, bv_andn (by omega), bvs_put, put_back hk hLk]; rfl
        · rw [if_neg (by rw [bv_inj (by omega) (by decide)]; exact hz), if_neg hz, ck_of (inI (by omega) (by omega))]; rfl
      · simp only [F_impl_countPartitions_l1]
        rw [bvs_len, if_neg (by omega)]
    rw [bnd_l key]
    unfold F_impl_countPartitions_k2
    have hr := ih (v + 1, L ++ [2 ^ v], waysTo a m L o L.length) (hI.new hlt rfl hm) (by simp only; omega)
    simp only at hr
    rw [show a.length - (v + 1) = m by omega] at hr
    rw [ck_of (inI (by omega) (by omega)), cal_of (cloneV_eq (by rw [bvs_len]; omega)), cal_of (one_eq (by omega)), app1_s (by rw [bvs_len]; omega), show bvs L ++ [BitVec.ofNat 32 (2 ^ v)] = bvs (L ++ [2 ^ v]) by simp [bvs], show (v : Int) + 1 = ((v + 1 : Nat) : Int) by omega, cal_of hr, hm, waysF, hvm]
    unfold waysTo
    rw [hvm]
open Classical in
noncomputable def resPartitionsBy (g : List (List Int)) : List Int := if GOk g ∧ g.length ≤ 8 then waysF (nb g) g.length [] (List.replicate (g.length + 1) 0) else []
theorem WIn_zero {n : Nat} (h : n ≤ 8) : WIn n 0 [] (List.replicate (n + 1) 0) :=
  ⟨h, Nat.zero_le _, Nat.zero_le _, fun i hi => (by cases hi), by simp, fun x hx => by rw [List.eq_of_mem_replicate hx]; have := nine_le (m := n - 0) (by omega); omega⟩
theorem resPartitionsBy_ok {g : List (List Int)} (h : GOk g ∧ g.length ≤ 8) : resPartitionsBy g = waysF (nb g) g.length [] (List.replicate (g.length + 1) 0) ∧ AllLe (resPartitionsBy g) 43046721 ∧ (resPartitionsBy g).length = g.length + 1 := by
  have e : resPartitionsBy g = waysF (nb g) g.length [] (List.replicate (g.length + 1) 0) := by unfold resPartitionsBy; rw [if_pos h]
  have h1 := waysF_ok (a := nb g) (m := g.length) (L := []) (o := List.replicate (g.length + 1) 0) (N := 0) (by simp; exact h.2) (fun x hx => by rw [List.eq_of_mem_replicate hx]; exact ⟨Int.le_refl _, Int.le_refl _⟩) (Int.le_refl _)
  refine ⟨e, ?_, ?_⟩
  · rw [e]; have := nine_le h.2; exact h1.1.mono (by omega)
  · rw [e, h1.2]; simp
theorem resPartitionsBy_small (g : List (List Int)) (hgl : g.length ≤ 1048576) (hl : ∀ x ∈ g, x.length ≤ 1048576) : (resPartitionsBy g).length ≤ 1048576 := by
  by_cases h : GOk g ∧ g.length ≤ 8
  · have := (resPartitionsBy_ok h).2.2; omega
  · unfold resPartitionsBy; rw [if_neg h]; simp
open Classical in
theorem l26Small_eq (g : List (List Int)) (hl : ∀ x ∈ g, x.length ≤ 1048576) : F_spec_l26Small g = some (decide (GOk g ∧ g.length ≤ 8)) := by
  unfold F_spec_l26Small
  rw [cal_of (specGraphOk_eq g hl)]
  by_cases hg : GOk g
  · rw [if_pos (by simp [hg])]; congr 1; rw [Bool.eq_iff_iff]; simp [hg]; omega
  · rw [if_neg (by simp [hg])]; simp [hg]
theorem specPartitionsBy_eq (g : List (List Int)) (hgl : g.length ≤ 1048576) (hl : ∀ x ∈ g, x.length ≤ 1048576) : F_spec_PartitionsBy g = some (resPartitionsBy g) := by
  unfold F_spec_PartitionsBy
  rw [cal_of (l26Small_eq g hl)]
  by_cases hg : GOk g ∧ g.length ≤ 8
  case neg => rw [if_pos (by simpa using hg)]; unfold resPartitionsBy; rw [if_neg hg]
  have hnl := nb_len g
  have hw := WIn_zero hg.2
  rw [if_neg (by simpa using hg), ck_of (inI (by omega) (by omega)), cal_of (l25Bits_eq hg.1), mkS_of (by omega) (by unfold lim; omega), show ((g.length : Int) + 1).toNat = g.length + 1 by omega]
  have := l26Ways_eq (a := nb g) (fun v h => nb_lt16 hg.1 h) 0 [] (List.replicate (g.length + 1) 0) (by rw [hnl]; exact hw)
  rw [show ints [] = [] from rfl, show ((0 : Nat) : Int) = 0 from rfl] at this
  rw [cal_of this, (resPartitionsBy_ok hg).1, hnl]; rfl
open Classical in
theorem isSmall_eq (g : List (List Int)) (hgl : g.length ≤ 1048576) (hl : ∀ x ∈ g, x.length ≤ 1048576) : F_impl_isSmall g = some (decide (GOk g ∧ g.length ≤ 8)) := by
  unfold F_impl_isSmall
  rw [cal_of (implGraphOk_eq g hgl hl)]
  by_cases hg : GOk g
  · rw [if_pos (by simp [hg])]; congr 1; rw [Bool.eq_iff_iff]; simp [hg]; omega
  · rw [if_neg (by simp [hg])]; simp [hg]
theorem implPartitionsBy_eq (g : List (List Int)) (hgl : g.length ≤ 1048576) (hl : ∀ x ∈ g, x.length ≤ 1048576) : F_impl_PartitionsBy g = some (resPartitionsBy g) := by
  unfold F_impl_PartitionsBy
  rw [cal_of (isSmall_eq g hgl hl)]
  by_cases hg : GOk g ∧ g.length ≤ 8
  case neg => rw [if_pos (by simpa using hg)]; unfold resPartitionsBy; rw [if_neg hg]
  have hnl := nb_len g
  have hw := WIn_zero hg.2
  rw [if_neg (by simpa using hg), ck_of (inI (by omega) (by omega)), mkS_of (by omega) (by unfold lim; omega), cal_of (netsOf_eq hg.1), show ((g.length : Int) + 1).toNat = g.length + 1 by omega]
  have := countPartitions_eq (a := nb g) (fun v h => nb_lt16 hg.1 h) 0 [] (List.replicate (g.length + 1) 0) (by rw [hnl]; exact hw)
  rw [show bvs [] = [] from rfl, show ((0 : Nat) : Int) = 0 from rfl] at this
  rw [cal_of this, (resPartitionsBy_ok hg).1, hnl]; rfl
end Go.Proofs.Ytadjcnllmkdgiaa

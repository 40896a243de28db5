/- Rows of states as numbers: what stands at each vertex of a bag, the first vertex's digit the least. -/
import Derived.Test.YtnebbhginakaiaaNice
namespace Go.Proofs.Ytnebbhginakaiaa
def cod (k : Nat) : List Int → (Nat → Nat) → Nat
  | [], _ => 0
  | v :: b, f => f v.toNat + k * cod k b f
theorem cod_cons (k : Nat) (v : Int) (b : List Int) (f : Nat → Nat) : cod k (v :: b) f = f v.toNat + k * cod k b f := rfl
def upd1 (f : Nat → Nat) (v c : Nat) : Nat → Nat := fun x => if x = v then c else f x
theorem cod_congr {k : Nat} : ∀ {b : List Int} {f f' : Nat → Nat}, (∀ v ∈ b, f v.toNat = f' v.toNat) → cod k b f = cod k b f'
  | [], _, _, _ => rfl
  | v :: b, f, f', h => by
    rw [cod_cons, cod_cons, h v (by simp), cod_congr (b := b) (fun u hu => h u (by simp [hu]))]
theorem cod_lt {k : Nat} : ∀ {b : List Int} {f : Nat → Nat}, (∀ v ∈ b, f v.toNat < k) → cod k b f < k ^ b.length
  | [], _, _ => by simp [cod]
  | v :: b, f, h => by
    have h1 := h v (by simp)
    have h2 := cod_lt (b := b) (fun u hu => h u (by simp [hu]))
    rw [cod_cons, List.length_cons, Nat.pow_succ, Nat.mul_comm (k ^ b.length) k]
    calc f v.toNat + k * cod k b f < k + k * cod k b f := by omega
      _ = k * (cod k b f + 1) := by rw [Nat.mul_add]; omega
      _ ≤ k * k ^ b.length := Nat.mul_le_mul_left _ h2
theorem cod_append {k : Nat} : ∀ (b1 b2 : List Int) (f : Nat → Nat), cod k (b1 ++ b2) f = cod k b1 f + k ^ b1.length * cod k b2 f
  | [], b2, f => by simp [cod]
  | v :: b1, b2, f => by
    rw [List.cons_append]
    rw [cod_cons, cod_cons, cod_append b1 b2 f, List.length_cons, Nat.pow_succ, Nat.mul_add, Nat.mul_comm (k ^ b1.length) k, Nat.mul_assoc]; omega
theorem cod_low {k p c1 x : Nat} (hp : 0 < p) (h : c1 < p) : (c1 + p * x) / p = x ∧ (c1 + p * x) % p = c1 := by
  rw [Nat.add_mul_div_left _ _ hp, Nat.div_eq_of_lt h, Nat.add_mul_mod_self_left, Nat.mod_eq_of_lt h]; exact ⟨Nat.zero_add _, rfl⟩
theorem cod_digit {k : Nat} {b1 b2 : List Int} {v : Int} {f : Nat → Nat} (h : ∀ u ∈ b1 ++ v :: b2, f u.toNat < k) : cod k (b1 ++ v :: b2) f / k ^ b1.length % k = f v.toNat := by
  have hv := h v (by simp)
  have hk : 0 < k := by omega
  have h1 := cod_lt (k := k) (b := b1) (f := f) (fun u hu => h u (by simp [hu]))
  rw [cod_append, (cod_low (k := k) (Nat.pow_pos hk) h1).1]
  rw [cod_cons, Nat.add_mul_mod_self_left, Nat.mod_eq_of_lt hv]
theorem cod_out {k : Nat} {b1 b2 : List Int} {v : Int} {f : Nat → Nat} (h : ∀ u ∈ b1 ++ v :: b2, f u.toNat < k) :
    cod k (b1 ++ v :: b2) f / (k ^ b1.length * k) * k ^ b1.length + cod k (b1 ++ v :: b2) f % k ^ b1.length = cod k (b1 ++ b2) f := by
  have hv := h v (by simp)
  have hk : 0 < k := by omega
  have h1 := cod_lt (k := k) (b := b1) (f := f) (fun u hu => h u (by simp [hu]))
  have h2 := cod_low (k := k) (x := cod k (v :: b2) f) (Nat.pow_pos hk) h1
  rw [cod_append, ← Nat.div_div_eq_div_mul, h2.1, h2.2, cod_append]
  rw [cod_cons, Nat.add_mul_div_left _ _ hk, Nat.div_eq_of_lt hv, Nat.zero_add, Nat.mul_comm, Nat.add_comm]
theorem cod_in {k : Nat} (hk : 0 < k) {b1 b2 : List Int} {v : Int} {f : Nat → Nat} (h : ∀ u ∈ b1 ++ b2, f u.toNat < k) (hv : ∀ u ∈ b1 ++ b2, u.toNat ≠ v.toNat) (c : Nat) :
    (cod k (b1 ++ b2) f / k ^ b1.length * k + c) * k ^ b1.length + cod k (b1 ++ b2) f % k ^ b1.length = cod k (b1 ++ v :: b2) (upd1 f v.toNat c) := by
  have h1 := cod_lt (k := k) (b := b1) (f := f) (fun u hu => h u (by simp [hu]))
  have h2 := cod_low (k := k) (x := cod k b2 f) (Nat.pow_pos hk) h1
  have e1 : cod k b1 (upd1 f v.toNat c) = cod k b1 f := cod_congr fun u hu => by unfold upd1; rw [if_neg (hv u (by simp [hu]))]
  have e2 : cod k b2 (upd1 f v.toNat c) = cod k b2 f := cod_congr fun u hu => by unfold upd1; rw [if_neg (hv u (by simp [hu]))]
  rw [cod_append, h2.1, h2.2, cod_append, e1]
  show _ = cod k b1 f + k ^ b1.length * (upd1 f v.toNat c v.toNat + k * cod k b2 (upd1 f v.toNat c))
  rw [e2, show upd1 f v.toNat c v.toNat = c by unfold upd1; rw [if_pos rfl], Nat.mul_comm (cod k b2 f) k, Nat.mul_comm _ (k ^ b1.length), Nat.add_comm c]; omega
theorem cod_surj {k : Nat} : ∀ (b : List Int), b.Pairwise (fun u v => u.toNat ≠ v.toNat) → ∀ s, s < k ^ b.length → ∃ f : Nat → Nat, (∀ v ∈ b, f v.toNat < k) ∧ (∀ x, (∀ v ∈ b, v.toNat ≠ x) → f x = 0) ∧ cod k b f = s
  | [], _, s, hs => ⟨fun _ => 0, by simp, fun _ _ => rfl, by simp at hs; subst hs; rfl⟩
  | v :: b, hp, s, hs => by
    obtain ⟨h1, h2⟩ := List.pairwise_cons.1 hp
    rw [List.length_cons, Nat.pow_succ] at hs
    have hk : 0 < k := by rcases Nat.eq_zero_or_pos k with e | e; subst e; omega; exact e
    obtain ⟨f, hf1, hf2, hf3⟩ := cod_surj b h2 (s / k) (Nat.div_lt_of_lt_mul (by rw [Nat.mul_comm]; exact hs))
    have hne : ∀ u ∈ b, u.toNat ≠ v.toNat := fun u hu e => h1 u hu e.symm
    refine ⟨upd1 f v.toNat (s % k), fun u hu => ?_, fun x hx => ?_, ?_⟩
    · unfold upd1; split
      · exact Nat.mod_lt _ hk
      · rename_i c
        rcases List.mem_cons.1 hu with e | hu
        · subst e; exact absurd rfl c
        · exact hf1 u hu
    · unfold upd1
      rw [if_neg (fun e => hx v (by simp) e.symm)]
      exact hf2 x fun u hu => hx u (by simp [hu])
    · show upd1 f v.toNat (s % k) v.toNat + k * cod k b (upd1 f v.toNat (s % k)) = s
      rw [cod_congr (f' := f) (fun u hu => by unfold upd1; rw [if_neg (hne u hu)]), hf3, show upd1 f v.toNat (s % k) v.toNat = s % k by unfold upd1; rw [if_pos rfl]]
      exact Nat.mod_add_div s k
/-! ## the reference's arithmetic -/
theorem pow_in {k n : Nat} (hk : k ≤ 4) (hn : n ≤ 9) : k ^ n ≤ 262144 := by
  rcases Nat.eq_zero_or_pos k with e | e
  · subst e; rcases Nat.eq_zero_or_pos n with e | e
    · subst e; decide
    · rw [Nat.zero_pow e]; omega
  · calc k ^ n ≤ 4 ^ n := Nat.pow_le_pow_left hk n
      _ ≤ 4 ^ 9 := Nat.pow_le_pow_right (by decide) hn
      _ ≤ 262144 := by decide
theorem l29Power_eq {k n : Nat} (hk : k ≤ 4) (hn : n ≤ 9) : F_spec_l29Power (k : Int) (n : Int) = some ((k ^ n : Nat) : Int) := by
  unfold F_spec_l29Power
  have key := lp_upto (step := fun s => F_spec_l29Power_l1 (k : Int) s.1 s.2) (fun j => (((n - j : Nat) : Int), ((k ^ j : Nat) : Int))) n (o := Sum.inl ((k ^ n : Nat) : Int)) (s := ((n : Int), 1)) (by simp) (fun j hj => by
    simp only [F_spec_l29Power_l1]
    have h1 := pow_in hk (show j + 1 ≤ 9 by omega)
    rw [Nat.pow_succ] at h1
    have h2 : (((k ^ j : Nat) : Int) * (k : Int)) = ((k ^ (j + 1) : Nat) : Int) := by rw [Nat.pow_succ]; push_cast; rfl
    rw [if_pos (by omega), h2, ck_of (inI (by omega) (by rw [Nat.pow_succ]; omega)), ck_of (inI (by omega) (by omega)), show ((n - j : Nat) : Int) - 1 = ((n - (j + 1) : Nat) : Int) by omega]) (by
    simp only [F_spec_l29Power_l1]
    rw [if_neg (by omega)])
  rw [key]; rfl
theorem l29At_eq {b1 b2 : List Int} {v : Int} (hv : ∀ u ∈ b1, u ≠ v) (hl : b1.length ≤ 8) : F_spec_l29At (b1 ++ v :: b2) v = some ((b1.length : Nat) : Int) := by
  unfold F_spec_l29At
  have key := lp_upto (step := fun s => F_spec_l29At_l1 (b1 ++ v :: b2) v s) (fun j => ((j : Nat) : Int)) b1.length (o := (Sum.inr ((b1.length : Nat) : Int) : Unit ⊕ Int)) (s := (0 : Int)) rfl (fun j hj => by
    simp only [F_spec_l29At_l1]
    rw [if_pos (by rw [List.length_append, List.length_cons]; omega), idx_of (x := b1[j]) (by omega) (by rw [Int.toNat_natCast, List.getElem?_append_left hj, List.getElem?_eq_getElem hj]), if_neg (hv _ (List.getElem_mem hj)), ck_of (inI (by omega) (by omega))]; rfl) (by
    simp only [F_spec_l29At_l1]
    rw [if_pos (by rw [List.length_append, List.length_cons]; omega), idx_of (x := v) (by omega) (by rw [Int.toNat_natCast, List.getElem?_append_right (Nat.le_refl _), Nat.sub_self]; rfl), if_pos rfl])
  rw [key]; rfl
theorem inI_natlt {n : Nat} (h : n ≤ 4611686018427387904) : InI (n : Int) := inI (by omega) (by omega)
theorem pow_pos_int {k n : Nat} (h : 0 < k) : (0 : Int) < ((k ^ n : Nat) : Int) := by have := Nat.pow_pos (n := n) h; omega
theorem l29Digit_eq {k s a : Nat} (hk : k ≤ 4) (h0 : 0 < k) (ha : a ≤ 8) : F_spec_l29Digit (s : Int) (k : Int) (a : Int) = some ((s / k ^ a % k : Nat) : Int) := by
  unfold F_spec_l29Digit
  rw [cal_of (l29Power_eq hk (by omega)), grd_of ⟨by omega, pow_pos_int h0⟩, grd_of ⟨Int.ediv_nonneg (by omega) (by omega), by omega⟩]
  congr 1
theorem l29Out_eq {k s a : Nat} (hk : k ≤ 4) (h0 : 0 < k) (ha : a ≤ 8) (hs : s ≤ 262144) : F_spec_l29Out (s : Int) (k : Int) (a : Int) = some ((s / (k ^ a * k) * k ^ a + s % k ^ a : Nat) : Int) := by
  unfold F_spec_l29Out
  have h1 := pow_in (k := k) (n := a + 1) hk (by omega)
  rw [Nat.pow_succ] at h1
  have hp := Nat.pow_pos (n := a) h0
  have e1 : (((k ^ a : Nat) : Int) * (k : Int)) = ((k ^ a * k : Nat) : Int) := by push_cast; rfl
  have h2 : s / (k ^ a * k) * k ^ a ≤ s := by
    calc s / (k ^ a * k) * k ^ a ≤ s / (k ^ a * k) * (k ^ a * k) := Nat.mul_le_mul_left _ (Nat.le_mul_of_pos_right _ h0)
      _ ≤ s := Nat.div_mul_le_self _ _
  have e2 : ((s : Int) / ((k ^ a * k : Nat) : Int) * ((k ^ a : Nat) : Int)) = ((s / (k ^ a * k) * k ^ a : Nat) : Int) := by push_cast; rfl
  have e3 : ((s : Int) % ((k ^ a : Nat) : Int)) = ((s % k ^ a : Nat) : Int) := by push_cast; rfl
  have h3 := Nat.mod_le s (k ^ a)
  have e5 : ((s / (k ^ a * k) * k ^ a : Nat) : Int) + ((s % k ^ a : Nat) : Int) = ((s / (k ^ a * k) * k ^ a + s % k ^ a : Nat) : Int) := by push_cast; rfl
  have h4 : 0 < k ^ a * k := Nat.mul_pos hp h0
  rw [cal_of (l29Power_eq hk (by omega)), e1, ck_of (inI (by omega) (by omega)), grd_of ⟨by omega, by omega⟩, e2, ck_of (inI_natlt (by omega)), grd_of ⟨by omega, by omega⟩, e3, e5, ck_of (inI_natlt (by omega))]
theorem l29In_eq {k s a c : Nat} (hk : k ≤ 4) (h0 : 0 < k) (ha : a ≤ 8) (hc : c ≤ 4) (hs : s ≤ 262144) : F_spec_l29In (s : Int) (k : Int) (a : Int) (c : Int) = some (((s / k ^ a * k + c) * k ^ a + s % k ^ a : Nat) : Int) := by
  unfold F_spec_l29In
  have h1 := pow_in (k := k) (n := a) hk (by omega)
  have hp := Nat.pow_pos (n := a) h0
  have e1 : ((s : Int) / ((k ^ a : Nat) : Int) * (k : Int)) = ((s / k ^ a * k : Nat) : Int) := by push_cast; rfl
  have h2 : s / k ^ a ≤ s := Nat.div_le_self _ _
  have h5 : s / k ^ a * k ≤ s * 4 := Nat.mul_le_mul h2 hk
  have h6 : (s / k ^ a * k + c) * k ^ a ≤ (s * 4 + 4) * 262144 := Nat.mul_le_mul (by omega) h1
  have e2 : ((s / k ^ a * k : Nat) : Int) + (c : Int) = ((s / k ^ a * k + c : Nat) : Int) := by push_cast; rfl
  have e4 : (((s / k ^ a * k + c : Nat) : Int) * ((k ^ a : Nat) : Int)) = (((s / k ^ a * k + c) * k ^ a : Nat) : Int) := by push_cast; rfl
  have e3 : ((s : Int) % ((k ^ a : Nat) : Int)) = ((s % k ^ a : Nat) : Int) := by push_cast; rfl
  have h3 := Nat.mod_le s (k ^ a)
  have e5 : (((s / k ^ a * k + c) * k ^ a : Nat) : Int) + ((s % k ^ a : Nat) : Int) = (((s / k ^ a * k + c) * k ^ a + s % k ^ a : Nat) : Int) := by push_cast; rfl
  rw [cal_of (l29Power_eq hk (by omega)), grd_of ⟨by omega, by omega⟩, e1, ck_of (inI_natlt (by omega)), e2, ck_of (inI_natlt (by omega)), e4, ck_of (inI_natlt (by omega)), grd_of ⟨by omega, by omega⟩, e3, e5, ck_of (inI_natlt (by omega))]
def nearC (g : List (List Int)) (b : List Int) (f : Nat → Nat) (v : Int) (c : Nat) : Prop := ∃ u ∈ b, u ∈ g.getD v.toNat [] ∧ f u.toNat = c
open Classical in
theorem l29Near_eq {g : List (List Int)} (hl : ∀ x ∈ g, x.length ≤ 1048576) {k : Nat} (hk : k ≤ 4) (h0 : 0 < k) {b : List Int} (hb : b.length ≤ 8) {f : Nat → Nat} (hf : ∀ u ∈ b, f u.toNat < k) {v : Int} (hv0 : 0 ≤ v) (hv : v < g.length) (c : Nat) :
    F_spec_l29Near g b (cod k b f : Int) (k : Int) v (c : Int) = some (decide (nearC g b f v c)) := by
  unfold F_spec_l29Near
  have hrow : g.getD v.toNat [] ∈ g := by rw [List.getD_eq_getElem?_getD, List.getElem?_eq_getElem (by omega)]; exact List.getElem_mem _
  have ed : ∀ u, F_spec_l1Edge g v u = some (decide (u ∈ g.getD v.toNat [])) := fun u => by
    unfold F_spec_l1Edge
    rw [idx_of (x := g.getD v.toNat []) hv0 (by rw [List.getD_eq_getElem?_getD, List.getElem?_eq_getElem (by omega)]; rfl), cal_of (l1Has_eq _ _ (by have := hl _ hrow; omega))]
  have dg : ∀ j (hj : j < b.length), F_spec_l29Digit (cod k b f : Int) (k : Int) (j : Int) = some ((f (b[j]).toNat : Nat) : Int) := fun j hj => by
    rw [l29Digit_eq hk h0 (by omega)]
    have e : b = b.take j ++ b[j] :: b.drop (j + 1) := by rw [List.getElem_cons_drop, List.take_append_drop]
    have h := cod_digit (k := k) (b1 := b.take j) (b2 := b.drop (j + 1)) (v := b[j]) (f := f) (by rw [← e]; exact hf)
    rw [← e, List.length_take, Nat.min_eq_left (by omega)] at h
    rw [h]
  rw [lp_find (l := b) (p := fun u => decide (u ∈ g.getD v.toNat [] ∧ f u.toNat = c)) (f := fun _ => true) (step := fun s => F_spec_l29Near_l1 g b (cod k b f : Int) (k : Int) v (c : Int) s) (fun j hj hp => by
      simp only [decide_eq_false_iff_not] at hp
      simp only [F_spec_l29Near_l1]
      rw [if_pos (by omega), idx_nat hj, cal_of (ed _)]
      by_cases h1 : b[j] ∈ g.getD v.toNat []
      · rw [if_pos (by simp only [decide_eq_true_eq]; exact h1), cal_of (dg j hj), if_neg (fun h => hp ⟨h1, by omega⟩), ck_of (inI (by omega) (by omega))]
      · rw [if_neg (by simp only [decide_eq_true_eq]; exact h1), ck_of (inI (by omega) (by omega))])
    (fun j hj hp => by
      simp only [decide_eq_true_eq] at hp
      simp only [F_spec_l29Near_l1]
      rw [if_pos (by omega), idx_nat hj, cal_of (ed _), if_pos (by simp only [decide_eq_true_eq]; exact hp.1), cal_of (dg j hj), if_pos (by rw [hp.2])])
    (by simp only [F_spec_l29Near_l1]; rw [if_neg (by omega)])]
  cases e : b.findIdx? (fun u => decide (u ∈ g.getD v.toNat [] ∧ f u.toNat = c)) with
  | none =>
    rw [List.findIdx?_eq_none_iff] at e
    have : ¬ nearC g b f v c := fun ⟨u, hu, h1, h2⟩ => by have := e u hu; simp only [decide_eq_false_iff_not] at this; exact this ⟨h1, h2⟩
    rw [decide_eq_false this]; rfl
  | some j =>
    rw [List.findIdx?_eq_some_iff_getElem] at e
    obtain ⟨hj, hp, _⟩ := e
    simp only [decide_eq_true_eq] at hp
    rw [decide_eq_true (show nearC g b f v c from ⟨b[j], List.getElem_mem hj, hp.1, hp.2⟩)]; rfl
end Go.Proofs.Ytnebbhginakaiaa

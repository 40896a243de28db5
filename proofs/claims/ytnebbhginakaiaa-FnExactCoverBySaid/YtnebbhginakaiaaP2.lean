/- Plain texts: Cod, Tree, Gat, TreeS, TreeI, StabKey, GatO, TreeW, TreeWI, LawNice, TFnExactHeaviestBy. -/
import Derived.Test.YtnebbhginakaiaaP1
import Derived.Test.YtnebbhginakaiaaRul
/- Rows of states as numbers: what stands at each vertex of a bag, the first vertex's digit the least. -/
namespace Go.Proofs.Ytnebbhginakaiaa
def cod (k : Nat) : List Int → (Nat → Nat) → Nat
  | [], _ => 0
  | v :: b, f => f v.toNat + k * cod k b f
theorem cod_cons (k : Nat) (v : Int) (b : List Int) (f : Nat → Nat) : cod k (v :: b) f = f v.toNat + k * cod k b f := rfl
def upd1 (f : Nat → Nat) (v c : Nat) : Nat → Nat := fun x => if x = v then c else f x
theorem cod_congr {k : Nat} : ∀ {b : List Int} {f f' : Nat → Nat}, (∀ v ∈ b, f v.toNat = f' v.toNat) → cod k b f = cod k b f'
  | [], _, _, _ => rfl
  | v :: b, f, f', h => by
    rw [cod_cons, cod_cons, h v (by simp), cod_congr (b := b) (fun u hu => h u (by simp [hu]))]
theorem cod_lt {k : Nat} : ∀ {b : List Int} {f : Nat → Nat}, (∀ v ∈ b, f v.toNat < k) → cod k b f < k ^ b.length
  | [], _, _ => by simp [cod]
  | v :: b, f, h => by
    have h1 := h v (by simp)
    have h2 := cod_lt (b := b) (fun u hu => h u (by simp [hu]))
    rw [cod_cons, List.length_cons, Nat.pow_succ, Nat.mul_comm (k ^ b.length) k]
    calc f v.toNat + k * cod k b f < k + k * cod k b f := by omega
      _ = k * (cod k b f + 1) := by rw [Nat.mul_add]; omega
      _ ≤ k * k ^ b.length := Nat.mul_le_mul_left _ h2
theorem cod_append {k : Nat} : ∀ (b1 b2 : List Int) (f : Nat → Nat), cod k (b1 ++ b2) f = cod k b1 f + k ^ b1.length * cod k b2 f
  | [], b2, f => by simp [cod]
  | v :: b1, b2, f => by
    rw [List.cons_append]
    rw [cod_cons, cod_cons, cod_append b1 b2 f, List.length_cons, Nat.pow_succ, Nat.mul_add, Nat.mul_comm (k ^ b1.length) k, Nat.mul_assoc]; omega
theorem cod_low {k p c1 x : Nat} (hp : 0 < p) (h : c1 < p) : (c1 + p * x) / p = x ∧ (c1 + p * x) % p = c1 := by
  rw [Nat.add_mul_div_left _ _ hp, Nat.div_eq_of_lt h, Nat.add_mul_mod_self_left, Nat.mod_eq_of_lt h]; exact ⟨Nat.zero_add _, rfl⟩
theorem cod_digit {k : Nat} {b1 b2 : List Int} {v : Int} {f : Nat → Nat} (h : ∀ u ∈ b1 ++ v :: b2, f u.toNat < k) : cod k (b1 ++ v :: b2) f / k ^ b1.length % k = f v.toNat := by
  have hv := h v (by simp)
  have hk : 0 < k := by omega
  have h1 := cod_lt (k := k) (b := b1) (f := f) (fun u hu => h u (by simp [hu]))
  rw [cod_append, (cod_low (k := k) (Nat.pow_pos hk) h1).1]
  rw [cod_cons, Nat.add_mul_mod_self_left, Nat.mod_eq_of_lt hv]
theorem cod_out {k : Nat} {b1 b2 : List Int} {v : Int} {f : Nat → Nat} (h : ∀ u ∈ b1 ++ v :: b2, f u.toNat < k) :
    cod k (b1 ++ v :: b2) f / (k ^ b1.length * k) * k ^ b1.length + cod k (b1 ++ v :: b2) f % k ^ b1.length = cod k (b1 ++ b2) f := by
  have hv := h v (by simp)
  have hk : 0 < k := by omega
  have h1 := cod_lt (k := k) (b := b1) (f := f) (fun u hu => h u (by simp [hu]))
  have h2 := cod_low (k := k) (x := cod k (v :: b2) f) (Nat.pow_pos hk) h1
  rw [cod_append, ← Nat.div_div_eq_div_mul, h2.1, h2.2, cod_append]
  rw [cod_cons, Nat.add_mul_div_left _ _ hk, Nat.div_eq_of_lt hv, Nat.zero_add, Nat.mul_comm, Nat.add_comm]
theorem cod_in {k : Nat} (hk : 0 < k) {b1 b2 : List Int} {v : Int} {f : Nat → Nat} (h : ∀ u ∈ b1 ++ b2, f u.toNat < k) (hv : ∀ u ∈ b1 ++ b2, u.toNat ≠ v.toNat) (c : Nat) :
    (cod k (b1 ++ b2) f / k ^ b1.length * k + c) * k ^ b1.length + cod k (b1 ++ b2) f % k ^ b1.length = cod k (b1 ++ v :: b2) (upd1 f v.toNat c) := by
  have h1 := cod_lt (k := k) (b := b1) (f := f) (fun u hu => h u (by simp [hu]))
  have h2 := cod_low (k := k) (x := cod k b2 f) (Nat.pow_pos hk) h1
  have e1 : cod k b1 (upd1 f v.toNat c) = cod k b1 f := cod_congr fun u hu => by unfold upd1; rw [if_neg (hv u (by simp [hu]))]
  have e2 : cod k b2 (upd1 f v.toNat c) = cod k b2 f := cod_congr fun u hu => by unfold upd1; rw [if_neg (hv u (by simp [hu]))]
  rw [cod_append, h2.1, h2.2, cod_append, e1]
  show _ = cod k b1 f + k ^ b1.length * (upd1 f v.toNat c v.toNat + k * cod k b2 (upd1 f v.toNat c))
  rw [e2, show upd1 f v.toNat c v.toNat = c by unfold upd1; rw [if_pos rfl], Nat.mul_comm (cod k b2 f) k, Nat.mul_comm _ (k ^ b1.length), Nat.add_comm c]; omega
theorem cod_surj {k : Nat} : ∀ (b : List Int), b.Pairwise (fun u v => u.toNat ≠ v.toNat) → ∀ s, s < k ^ b.length → ∃ f : Nat → Nat, (∀ v ∈ b, f v.toNat < k) ∧ (∀ x, (∀ v ∈ b, v.toNat ≠ x) → f x = 0) ∧ cod k b f = s
  | [], _, s, hs => ⟨fun _ => 0, by simp, fun _ _ => rfl, by simp at hs; subst hs; rfl⟩
  | v :: b, hp, s, hs => by
    obtain ⟨h1, h2⟩ := List.pairwise_cons.1 hp
    rw [List.length_cons, Nat.pow_succ] at hs
    have hk : 0 < k := by rcases Nat.eq_zero_or_pos k with e | e; subst e; omega; exact e
    obtain ⟨f, hf1, hf2, hf3⟩ := cod_surj b h2 (s / k) (Nat.div_lt_of_lt_mul (by rw [Nat.mul_comm]; exact hs))
    have hne : ∀ u ∈ b, u.toNat ≠ v.toNat := fun u hu e => h1 u hu e.symm
    refine ⟨upd1 f v.toNat (s % k), fun u hu => ?_, fun x hx => ?_, ?_⟩
    · unfold upd1; split
      · exact Nat.mod_lt _ hk
      · rename_i c
        rcases List.mem_cons.1 hu with e | hu
        · subst e; exact absurd rfl c
        · exact hf1 u hu
    · unfold upd1
      rw [if_neg (fun e => hx v (by simp) e.symm)]
      exact hf2 x fun u hu => hx u (by simp [hu])
    · show upd1 f v.toNat (s % k) v.toNat + k * cod k b (upd1 f v.toNat (s % k)) = s
      rw [cod_congr (f' := f) (fun u hu => by unfold upd1; rw [if_neg (hne u hu)]), hf3, show upd1 f v.toNat (s % k) v.toNat = s % k by unfold upd1; rw [if_pos rfl]]
      exact Nat.mod_add_div s k
/-! ## the reference's arithmetic -/
theorem pow_in {k n : Nat} (hk : k ≤ 4) (hn : n ≤ 9) : k ^ n ≤ 262144 := by
  rcases Nat.eq_zero_or_pos k with e | e
  · subst e; rcases Nat.eq_zero_or_pos n with e | e
    · subst e; decide
    · rw [Nat.zero_pow e]; omega
  · calc k ^ n ≤ 4 ^ n := Nat.pow_le_pow_left hk n
      _ ≤ 4 ^ 9 := Nat.pow_le_pow_right (by decide) hn
      _ ≤ 262144 := by decide
theorem l29Power_eq {k n : Nat} (hk : k ≤ 4) (hn : n ≤ 9) : F_spec_l29Power (k : Int) (n : Int) = some ((k ^ n : Nat) : Int) := by
  unfold F_spec_l29Power
  have key := lp_upto (step := fun s => F_spec_l29Power_l1 (k : Int) s.1 s.2) (fun j => (((n - j : Nat) : Int), ((k ^ j : Nat) : Int))) n (o := Sum.inl ((k ^ n : Nat) : Int)) (s := ((n : Int), 1)) (by simp) (fun j hj => by
    simp only [F_spec_l29Power_l1]
    have h1 := pow_in hk (show j + 1 ≤ 9 by omega)
    rw [Nat.pow_succ] at h1
    have h2 : (((k ^ j : Nat) : Int) * (k : Int)) = ((k ^ (j + 1) : Nat) : Int) := by rw [Nat.pow_succ]; push_cast; rfl
    rw [if_pos (by omega), h2, ck_of (inI (by omega) (by rw [Nat.pow_succ]; omega)), ck_of (inI (by omega) (by omega)), show ((n - j : Nat) : Int) - 1 = ((n - (j + 1) : Nat) : Int) by omega]) (by
    simp only [F_spec_l29Power_l1]
    rw [if_neg (by omega)])
  rw [key]; rfl
theorem l29At_eq {b1 b2 : List Int} {v : Int} (hv : ∀ u ∈ b1, u ≠ v) (hl : b1.length ≤ 8) : F_spec_l29At (b1 ++ v :: b2) v = some ((b1.length : Nat) : Int) := by
  unfold F_spec_l29At
  have key := lp_upto (step := fun s => F_spec_l29At_l1 (b1 ++ v :: b2) v s) (fun j => ((j : Nat) : Int)) b1.length (o := (Sum.inr ((b1.length : Nat) : Int) : Unit ⊕ Int)) (s := (0 : Int)) rfl (fun j hj => by
    simp only [F_spec_l29At_l1]
    rw [if_pos (by rw [List.length_append, List.length_cons]; omega), idx_of (x := b1[j]) (by omega) (by rw [Int.toNat_natCast, List.getElem?_append_left hj, List.getElem?_eq_getElem hj]), if_neg (hv _ (List.getElem_mem hj)), ck_of (inI (by omega) (by omega))]; rfl) (by
    simp only [F_spec_l29At_l1]
    rw [if_pos (by rw [List.length_append, List.length_cons]; omega), idx_of (x := v) (by omega) (by rw [Int.toNat_natCast, List.getElem?_append_right (Nat.le_refl _), Nat.sub_self]; rfl), if_pos rfl])
  rw [key]; rfl
theorem inI_natlt {n : Nat} (h : n ≤ 4611686018427387904) : InI (n : Int) := inI (by omega) (by omega)
theorem pow_pos_int {k n : Nat} (h : 0 < k) : (0 : Int) < ((k ^ n : Nat) : Int) := by have := Nat.pow_pos (n := n) h; omega
theorem l29Digit_eq {k s a : Nat} (hk : k ≤ 4) (h0 : 0 < k) (ha : a ≤ 8) : F_spec_l29Digit (s : Int) (k : Int) (a : Int) = some ((s / k ^ a % k : Nat) : Int) := by
  unfold F_spec_l29Digit
  rw [cal_of (l29Power_eq hk (by omega)), grd_of ⟨by omega, pow_pos_int h0⟩, grd_of ⟨Int.ediv_nonneg (by omega) (by omega), by omega⟩]
  congr 1
theorem l29Out_eq {k s a : Nat} (hk : k ≤ 4) (h0 : 0 < k) (ha : a ≤ 8) (hs : s ≤ 262144) : F_spec_l29Out (s : Int) (k : Int) (a : Int) = some ((s / (k ^ a * k) * k ^ a + s % k ^ a : Nat) : Int) := by
  unfold F_spec_l29Out
  have h1 := pow_in (k := k) (n := a + 1) hk (by omega)
  rw [Nat.pow_succ] at h1
  have hp := Nat.pow_pos (n := a) h0
  have e1 : (((k ^ a : Nat) : Int) * (k : Int)) = ((k ^ a * k : Nat) : Int) := by push_cast; rfl
  have h2 : s / (k ^ a * k) * k ^ a ≤ s := by
    calc s / (k ^ a * k) * k ^ a ≤ s / (k ^ a * k) * (k ^ a * k) := Nat.mul_le_mul_left _ (Nat.le_mul_of_pos_right _ h0)
      _ ≤ s := Nat.div_mul_le_self _ _
  have e2 : ((s : Int) / ((k ^ a * k : Nat) : Int) * ((k ^ a : Nat) : Int)) = ((s / (k ^ a * k) * k ^ a : Nat) : Int) := by push_cast; rfl
  have e3 : ((s : Int) % ((k ^ a : Nat) : Int)) = ((s % k ^ a : Nat) : Int) := by push_cast; rfl
  have h3 := Nat.mod_le s (k ^ a)
  have e5 : ((s / (k ^ a * k) * k ^ a : Nat) : Int) + ((s % k ^ a : Nat) : Int) = ((s / (k ^ a * k) * k ^ a + s % k ^ a : Nat) : Int) := by push_cast; rfl
  have h4 : 0 < k ^ a * k := Nat.mul_pos hp h0
  rw [cal_of (l29Power_eq hk (by omega)), e1, ck_of (inI (by omega) (by omega)), grd_of ⟨by omega, by omega⟩, e2, ck_of (inI_natlt (by omega)), grd_of ⟨by omega, by omega⟩, e3, e5, ck_of (inI_natlt (by omega))]
theorem l29In_eq {k s a c : Nat} (hk : k ≤ 4) (h0 : 0 < k) (ha : a ≤ 8) (hc : c ≤ 4) (hs : s ≤ 262144) : F_spec_l29In (s : Int) (k : Int) (a : Int) (c : Int) = some (((s / k ^ a * k + c) * k ^ a + s % k ^ a : Nat) : Int) := by
  unfold F_spec_l29In
  have h1 := pow_in (k := k) (n := a) hk (by omega)
  have hp := Nat.pow_pos (n := a) h0
  have e1 : ((s : Int) / ((k ^ a : Nat) : Int) * (k : Int)) = ((s / k ^ a * k : Nat) : Int) := by push_cast; rfl
  have h2 : s / k ^ a ≤ s := Nat.div_le_self _ _
  have h5 : s / k ^ a * k ≤ s * 4 := Nat.mul_le_mul h2 hk
  have h6 : (s / k ^ a * k + c) * k ^ a ≤ (s * 4 + 4) * 262144 := Nat.mul_le_mul (by omega) h1
  have e2 : ((s / k ^ a * k : Nat) : Int) + (c : Int) = ((s / k ^ a * k + c : Nat) : Int) := by push_cast; rfl
  have e4 : (((s / k ^ a * k + c : Nat) : Int) * ((k ^ a : Nat) : Int)) = (((s / k ^ a * k + c) * k ^ a : Nat) : Int) := by push_cast; rfl
  have e3 : ((s : Int) % ((k ^ a : Nat) : Int)) = ((s % k ^ a : Nat) : Int) := by push_cast; rfl
  have h3 := Nat.mod_le s (k ^ a)
  have e5 : (((s / k ^ a * k + c) * k ^ a : Nat) : Int) + ((s % k ^ a : Nat) : Int) = (((s / k ^ a * k + c) * k ^ a + s % k ^ a : Nat) : Int) := by push_cast; rfl
  rw [cal_of (l29Power_eq hk (by omega)), grd_of ⟨by omega, by omega⟩, e1, ck_of (inI_natlt (by omega)), e2, ck_of (inI_natlt (by omega)), e4, ck_of (inI_natlt (by omega)), grd_of ⟨by omega, by omega⟩, e3, e5, ck_of (inI_natlt (by omega))]
def nearC (g : List (List Int)) (b : List Int) (f : Nat → Nat) (v : Int) (c : Nat) : Prop := ∃ u ∈ b, u ∈ g.getD v.toNat [] ∧ f u.toNat = c
open Classical in
theorem l29Near_eq {g : List (List Int)} (hl : ∀ x ∈ g, x.length ≤ 1048576) {k : Nat} (hk : k ≤ 4) (h0 : 0 < k) {b : List Int} (hb : b.length ≤ 8) {f : Nat → Nat} (hf : ∀ u ∈ b, f u.toNat < k) {v : Int} (hv0 : 0 ≤ v) (hv : v < g.length) (c : Nat) :
    F_spec_l29Near g b (cod k b f : Int) (k : Int) v (c : Int) = some (decide (nearC g b f v c)) := by
  unfold F_spec_l29Near
  have hrow : g.getD v.toNat [] ∈ g := by rw [List.getD_eq_getElem?_getD, List.getElem?_eq_getElem (by omega)]; exact List.getElem_mem _
  have ed : ∀ u, F_spec_l1Edge g v u = some (decide (u ∈ g.getD v.toNat [])) := fun u => by
    unfold F_spec_l1Edge
    rw [idx_of (x := g.getD v.toNat []) hv0 (by rw [List.getD_eq_getElem?_getD, List.getElem?_eq_getElem (by omega)]; rfl), cal_of (l1Has_eq _ _ (by have := hl _ hrow; omega))]
  have dg : ∀ j (hj : j < b.length), F_spec_l29Digit (cod k b f : Int) (k : Int) (j : Int) = some ((f (b[j]).toNat : Nat) : Int) := fun j hj => by
    rw [l29Digit_eq hk h0 (by omega)]
    have e : b = b.take j ++ b[j] :: b.drop (j + 1) := by rw [List.getElem_cons_drop, List.take_append_drop]
    have h := cod_digit (k := k) (b1 := b.take j) (b2 := b.drop (j + 1)) (v := b[j]) (f := f) (by rw [← e]; exact hf)
    rw [← e, List.length_take, Nat.min_eq_left (by omega)] at h
    rw [h]
  rw [lp_find (l := b) (p := fun u => decide (u ∈ g.getD v.toNat [] ∧ f u.toNat = c)) (f := fun _ => true) (step := fun s => F_spec_l29Near_l1 g b (cod k b f : Int) (k : Int) v (c : Int) s) (fun j hj hp => by
      simp only [decide_eq_false_iff_not] at hp
      simp only [F_spec_l29Near_l1]
      rw [if_pos (by omega), idx_nat hj, cal_of (ed _)]
      by_cases h1 : b[j] ∈ g.getD v.toNat []
      · rw [if_pos (by simp only [decide_eq_true_eq]; exact h1), cal_of (dg j hj), if_neg (fun h => hp ⟨h1, by omega⟩), ck_of (inI (by omega) (by omega))]
      · rw [if_neg (by simp only [decide_eq_true_eq]; exact h1), ck_of (inI (by omega) (by omega))])
    (fun j hj hp => by
      simp only [decide_eq_true_eq] at hp
      simp only [F_spec_l29Near_l1]
      rw [if_pos (by omega), idx_nat hj, cal_of (ed _), if_pos (by simp only [decide_eq_true_eq]; exact hp.1), cal_of (dg j hj), if_pos (by rw [hp.2])])
    (by simp only [F_spec_l29Near_l1]; rw [if_neg (by omega)])]
  cases e : b.findIdx? (fun u => decide (u ∈ g.getD v.toNat [] ∧ f u.toNat = c)) with
  | none =>
    rw [List.findIdx?_eq_none_iff] at e
    have : ¬ nearC g b f v c := fun ⟨u, hu, h1, h2⟩ => by have := e u hu; simp only [decide_eq_false_iff_not] at this; exact this ⟨h1, h2⟩
    rw [decide_eq_false this]; rfl
  | some j =>
    rw [List.findIdx?_eq_some_iff_getElem] at e
    obtain ⟨hj, hp, _⟩ := e
    simp only [decide_eq_true_eq] at hp
    rw [decide_eq_true (show nearC g b f v c from ⟨b[j], List.getElem_mem hj, hp.1, hp.2⟩)]; rfl
end Go.Proofs.Ytnebbhginakaiaa

/- Nice trees, node by node; how many vertices are dropped below a node. -/
namespace Go.Proofs.Ytnebbhginakaiaa
theorem more_split {a b : List Int} {n : Nat} (hn : n ≤ 16) (ha : Rises a n) (hb : Rises b n) {v : Int} (h : More (mk a) (mk b) v) : (0 ≤ v ∧ v < n) ∧ ∃ b1 b2, b = b1 ++ v :: b2 ∧ a = b1 ++ b2 := by
  obtain ⟨hv, h1, h2⟩ := (more_iff hn ha.lt hb.lt).1 h
  have e : ((v.toNat : Nat) : Int) = v := by omega
  have hvb : v ∈ b := by
    have := (hb.mem_mk v.toNat).1 (by rw [h2]; simp [Nat.testBit_or, Nat.testBit_two_pow])
    rwa [e] at this
  obtain ⟨b1, b2, hb12⟩ := List.append_of_mem hvb
  refine ⟨hv, b1, b2, hb12, ?_⟩
  have sb := hb.sorted hn
  rw [hb12] at sb
  have sb' : (b1 ++ b2).Pairwise (· < ·) := sb.sublist (by simp)
  refine sorted_extI (ha.sorted hn) sb' fun x => ?_
  have hva : v ∉ a := fun hm => by have := (ha.mem_mk v.toNat).2 (by rw [e]; exact hm); rw [h1] at this; cases this
  have hvn : v ∉ b1 ++ b2 := fun hm => by
    rw [List.pairwise_append] at sb
    obtain ⟨_, s2, s3⟩ := sb
    rcases List.mem_append.1 hm with g | g
    · have := s3 v g v (by simp); omega
    · have := (List.pairwise_cons.1 s2).1 v g; omega
  have key : ∀ x, x ∈ a ∨ x = v ↔ x ∈ b := fun x => by
    constructor
    · rintro (hx | rfl)
      · have hx0 := ha.mem hx
        have := (ha.mem_mk x.toNat).2 (by rw [show ((x.toNat : Nat) : Int) = x by omega]; exact hx)
        have := (hb.mem_mk x.toNat).1 (by rw [h2, Nat.testBit_or, this]; rfl)
        rwa [show ((x.toNat : Nat) : Int) = x by omega] at this
      · exact hvb
    · intro hx
      have hx0 := hb.mem hx
      have := (hb.mem_mk x.toNat).2 (by rw [show ((x.toNat : Nat) : Int) = x by omega]; exact hx)
      rw [h2, Nat.testBit_or, Nat.testBit_two_pow, Bool.or_eq_true, decide_eq_true_eq] at this
      rcases this with h | h
      · have := (ha.mem_mk x.toNat).1 h
        rw [show ((x.toNat : Nat) : Int) = x by omega] at this; exact .inl this
      · exact .inr (by omega)
  have hk := key x
  rw [hb12] at hk
  simp only [List.mem_append, List.mem_cons] at hk hvn ⊢
  constructor
  · intro hx
    have hne : x ≠ v := fun e => hva (e ▸ hx)
    rcases hk.1 (.inl hx) with h | h | h
    · exact .inl h
    · exact absurd h hne
    · exact .inr h
  · intro hx
    have hne : x ≠ v := fun e => hvn (e ▸ hx)
    rcases hk.2 (by rcases hx with h | h; exact .inl h; exact .inr (.inr h)) with h | h
    · exact h
    · exact absurd h hne
inductive NodeK (n : Nat) (K V : List Int) (B C : List (List Int)) (i : Nat) : Prop
  | leaf (hk : K.getD i 0 = 1) (hb : B.getD i [] = []) (hc : C.getD i [] = [])
  | add (hk : K.getD i 0 = 2) (k : Nat) (hki : k < i) (hc : C.getD i [] = [(k : Int)]) (hv : 0 ≤ V.getD i 0 ∧ V.getD i 0 < n) (b1 b2 : List Int) (hb : B.getD i [] = b1 ++ V.getD i 0 :: b2) (hbk : B.getD k [] = b1 ++ b2)
  | drop (hk : K.getD i 0 = 3) (k : Nat) (hki : k < i) (hc : C.getD i [] = [(k : Int)]) (hv : 0 ≤ V.getD i 0 ∧ V.getD i 0 < n) (b1 b2 : List Int) (hbk : B.getD k [] = b1 ++ V.getD i 0 :: b2) (hb : B.getD i [] = b1 ++ b2)
  | meet (hk : K.getD i 0 = 4) (k l : Nat) (hki : k < i) (hli : l < i) (hc : C.getD i [] = [(k : Int), (l : Int)]) (hbk : B.getD k [] = B.getD i []) (hbl : B.getD l [] = B.getD i [])
section
variable {g : List (List Int)} {K V : List Int} {B C : List (List Int)}
theorem NiceIs.node (h : NiceIs g K V B C) {i : Nat} (hi : i < K.length) : NodeK g.length K V B C i := by
  have h16 := h.1.n16
  obtain ⟨_, _, _, _, _, hN, _⟩ := h
  obtain ⟨hb, hkid, h1⟩ := hN i hi
  have kid : ∀ {k : Nat}, (k : Int) ∈ C.getD i [] → k < i := fun {k} hk => by have := hkid _ hk; omega
  rcases h1 with ⟨e1, e2, e3, e4⟩ | ⟨e1, e2, k, l, hc, e3, e4⟩ | ⟨e1, k, hc, hm⟩ | ⟨e1, k, hc, hm⟩
  · exact .leaf e1 ((mk_nil_iff hb.2).1 e3) e4
  · have hk := kid (k := k) (by rw [hc]; simp)
    have hl := kid (k := l) (by rw [hc]; simp)
    exact .meet e1 k l hk hl hc ((rises_ext (hN k (by omega)).1.2 hb.2 h16).1 e3) ((rises_ext (hN l (by omega)).1.2 hb.2 h16).1 e4)
  · have hk := kid (k := k) (by rw [hc]; simp)
    obtain ⟨hv, b1, b2, x1, x2⟩ := more_split h16 (hN k (by omega)).1.2 hb.2 hm
    exact .add e1 k hk hc hv b1 b2 x1 x2
  · have hk := kid (k := k) (by rw [hc]; simp)
    obtain ⟨hv, b1, b2, x1, x2⟩ := more_split h16 hb.2 (hN k (by omega)).1.2 hm
    exact .drop e1 k hk hc hv b1 b2 x1 x2
theorem NiceIs.bag (h : NiceIs g K V B C) {i : Nat} (hi : i < K.length) : (B.getD i []).length ≤ 8 ∧ Rises (B.getD i []) g.length := (h.2.2.2.2.2.1 i hi).1
theorem NiceIs.nodup (h : NiceIs g K V B C) {i : Nat} (hi : i < K.length) : (B.getD i []).Pairwise (fun u v => u.toNat ≠ v.toNat) := by
  have hb := (h.bag hi).2
  refine List.Pairwise.imp_of_mem (fun {u v} hu hv huv => ?_) (hb.sorted h.1.n16)
  have := hb.mem hu; have := hb.mem hv; omega
theorem NiceIs.last (h : NiceIs g K V B C) : B.getD (K.length - 1) [] = [] := by
  have h1 := h.2.1
  exact (mk_nil_iff (h.bag (i := K.length - 1) (by omega)).2).1 h.2.2.2.2.2.2.1
def kidAt (C : List (List Int)) (i j : Nat) : Nat := ((C.getD i []).getD j 0).toNat
noncomputable def dn (K : List Int) (C : List (List Int)) (i : Nat) : Nat :=
  (if K.getD i 0 = 3 then 1 else 0) + (if h : kidAt C i 0 < i ∧ 0 < (C.getD i []).length then dn K C (kidAt C i 0) else 0) + (if h : kidAt C i 1 < i ∧ 1 < (C.getD i []).length then dn K C (kidAt C i 1) else 0)
termination_by i
decreasing_by all_goals exact h.1
theorem dn_one {i k : Nat} (hki : k < i) (hc : C.getD i [] = [(k : Int)]) : dn K C i = (if K.getD i 0 = 3 then 1 else 0) + dn K C k := by
  have e : kidAt C i 0 = k := by unfold kidAt; rw [hc]; rfl
  rw [dn, dif_pos ⟨by rw [e]; exact hki, by rw [hc]; simp⟩, dif_neg (by rw [hc]; simp), e]; rfl
theorem dn_two {i k l : Nat} (hki : k < i) (hli : l < i) (hc : C.getD i [] = [(k : Int), (l : Int)]) : dn K C i = (if K.getD i 0 = 3 then 1 else 0) + dn K C k + dn K C l := by
  have e : kidAt C i 0 = k := by unfold kidAt; rw [hc]; rfl
  have e1 : kidAt C i 1 = l := by unfold kidAt; rw [hc]; rfl
  rw [dn, dif_pos ⟨by rw [e]; exact hki, by rw [hc]; simp⟩, dif_pos ⟨by rw [e1]; exact hli, by rw [hc]; simp⟩, e, e1]
theorem dn_none {i : Nat} (hc : C.getD i [] = []) : dn K C i = if K.getD i 0 = 3 then 1 else 0 := by
  rw [dn, dif_neg (by rw [hc]; simp), dif_neg (by rw [hc]; simp)]; rfl
theorem sumN_split {α : Type} {f g h : α → Nat} : ∀ {l : List α}, (∀ x ∈ l, f x = g x + h x) → (l.map f).sum = (l.map g).sum + (l.map h).sum
  | [], _ => rfl
  | x :: l, hx => by simp only [List.map_cons, List.sum_cons]; rw [hx x (by simp), sumN_split (l := l) fun y hy => hx y (by simp [hy])]; omega
theorem sumN_zero {α : Type} {f : α → Nat} : ∀ {l : List α}, (∀ x ∈ l, f x = 0) → (l.map f).sum = 0
  | [], _ => rfl
  | x :: l, h => by rw [List.map_cons, List.sum_cons, h x (by simp), sumN_zero (l := l) fun y hy => h y (by simp [hy])]
theorem sumN_one {w : Nat → Nat} {k : Nat} : ∀ (i : Nat), k < i → ((List.range i).map fun j => if j = k then w j else 0).sum = w k
  | 0, h => by omega
  | i + 1, h => by
    rw [List.range_succ, List.map_append, List.sum_append]
    simp only [List.map_cons, List.map_nil, List.sum_cons, List.sum_nil]
    by_cases e : k = i
    · subst e
      rw [if_pos rfl]
      have : ((List.range k).map fun j => if j = k then w j else 0).sum = 0 := by
        have : ∀ (l : List Nat), (∀ x ∈ l, x < k) → (l.map fun j => if j = k then w j else 0).sum = 0 := by
          intro l; induction l with
          | nil => intro _; rfl
          | cons x l ih => intro hx; simp only [List.map_cons, List.sum_cons]; rw [if_neg (by have := hx x (by simp); omega), ih fun y hy => hx y (by simp [hy])]
        exact this _ fun x hx => by simpa using hx
      omega
    · rw [sumN_one i (by omega), if_neg (fun h => e h.symm)]; rfl
noncomputable def roots (K : List Int) (C : List (List Int)) (i : Nat) : Nat := ((List.range i).map fun j : Nat => if (j : Int) ∈ kidsTo C i then 0 else dn K C j).sum
theorem NiceIs.kid_once (h : NiceIs g K V B C) {v : Nat} (hv : v + 1 < K.length) : (kidsTo C K.length).count (v : Int) = 1 := h.2.2.2.2.2.2.2.1 v hv
theorem count_kids_mono (C : List (List Int)) {i m : Nat} (hi : i ≤ m) (x : Int) : (kidsTo C i).count x ≤ (kidsTo C m).count x := by
  unfold kidsTo
  have : C.take m = C.take i ++ (C.take m).drop i := by
    conv => lhs; rw [← List.take_append_drop i (C.take m)]
    rw [List.take_take, Nat.min_eq_left hi]
  rw [this, List.flatten_append, List.count_append]; omega
theorem NiceIs.roots (h : NiceIs g K V B C) : ∀ i, i ≤ K.length → roots K C i = (dropsTo K V i).length
  | 0, _ => by simp [Go.Proofs.Ytnebbhginakaiaa.roots, dropsTo]
  | i + 1, hi => by
    have ih := h.roots i (by omega)
    have hC := h.2.2.2.2.1
    have hci : i < C.length := by omega
    have hks : kidsTo C (i + 1) = kidsTo C i ++ C.getD i [] := by rw [kidsTo_succ hci, List.getD_eq_getElem?_getD, List.getElem?_eq_getElem hci]; rfl
    have hnd := h.node (i := i) (by omega)
    have hkids : ∀ x ∈ C.getD i [], 0 ≤ x ∧ x < i := (h.2.2.2.2.2.1 i (by omega)).2.1
    have hself : ((i : Nat) : Int) ∉ kidsTo C (i + 1) := fun hm => by
      obtain ⟨j, hj, hx⟩ := mem_kidsTo hm
      have := (h.2.2.2.2.2.1 j (by omega)).2.1 _ hx; omega
    have honce : ∀ x ∈ C.getD i [], (kidsTo C (i + 1)).count x = 1 := fun x hx => by
      obtain ⟨h0, h1⟩ := hkids x hx
      have h2 := h.kid_once (v := x.toNat) (by omega)
      rw [show ((x.toNat : Nat) : Int) = x by omega] at h2
      have h3 := count_kids_mono C (i := i + 1) (m := K.length) hi x
      have h4 : 0 < (kidsTo C (i + 1)).count x := List.count_pos_iff.2 (by rw [hks]; exact List.mem_append_right _ hx)
      omega
    have hnot : ∀ x ∈ C.getD i [], x ∉ kidsTo C i := fun x hx hm => by
      have h1 := honce x hx
      rw [hks, List.count_append] at h1
      have h2 := List.count_pos_iff.2 hm
      have h3 := List.count_pos_iff.2 hx
      omega
    -- the sum over the elder ones
    have hold : ((List.range i).map fun j : Nat => if (j : Int) ∈ kidsTo C i then 0 else dn K C j).sum = ((List.range i).map fun j : Nat => if (j : Int) ∈ kidsTo C (i + 1) then 0 else dn K C j).sum + ((List.range i).map fun j : Nat => if (j : Int) ∈ C.getD i [] then dn K C j else 0).sum := by
      refine sumN_split fun j hj => ?_
      rw [hks]
      by_cases c1 : (j : Int) ∈ C.getD i []
      · rw [if_neg (hnot _ c1), if_pos (List.mem_append_right _ c1), if_pos c1]; omega
      · by_cases c2 : (j : Int) ∈ kidsTo C i
        · rw [if_pos c2, if_pos (List.mem_append_left _ c2), if_neg c1]
        · rw [if_neg c2, if_neg (fun hm => (List.mem_append.1 hm).elim c2 c1), if_neg c1]; omega
    have hnew : Go.Proofs.Ytnebbhginakaiaa.roots K C (i + 1) = ((List.range i).map fun j : Nat => if (j : Int) ∈ kidsTo C (i + 1) then 0 else dn K C j).sum + dn K C i := by
      unfold Go.Proofs.Ytnebbhginakaiaa.roots
      rw [List.range_succ, List.map_append, List.sum_append]
      simp only [List.map_cons, List.map_nil, List.sum_cons, List.sum_nil]
      rw [if_neg hself]; rfl
    have hdn : dn K C i = (if K.getD i 0 = 3 then 1 else 0) + ((List.range i).map fun j : Nat => if (j : Int) ∈ C.getD i [] then dn K C j else 0).sum := by
      have one : ∀ k : Nat, k < i → C.getD i [] = [(k : Int)] → ((List.range i).map fun j : Nat => if (j : Int) ∈ C.getD i [] then dn K C j else 0).sum = dn K C k := fun k hki hc => by
        rw [hc, ← sumN_one (w := dn K C) i hki]
        refine congrArg List.sum (List.map_congr_left fun j _ => ?_)
        simp only [List.mem_singleton, Int.natCast_inj]
      cases hnd with
      | leaf hk hb hc => rw [dn_none hc, hc, sumN_zero fun j _ => by simp]; rfl
      | add hk k hki hc hv b1 b2 hb hbk => rw [dn_one hki hc, one k hki hc]
      | drop hk k hki hc hv b1 b2 hb hbk => rw [dn_one hki hc, one k hki hc]
      | meet hk k l hki hli hc hbk hbl =>
        have hkl : k ≠ l := fun e => by
          have h1 := honce (k : Int) (by rw [hc]; simp)
          rw [hks, hc, List.count_append, ← e] at h1
          simp at h1
        rw [dn_two hki hli hc, hc, ← sumN_one (w := dn K C) i hki, ← sumN_one (w := dn K C) (k := l) i hli, Nat.add_assoc]
        congr 1
        refine (sumN_split fun j _ => ?_).symm
        simp only [List.mem_cons, List.not_mem_nil, or_false, Int.natCast_inj]
        by_cases e1 : j = k
        · subst e1; rw [if_pos (.inl rfl), if_pos rfl, if_neg hkl]; rfl
        · by_cases e2 : j = l
          · subst e2; rw [if_pos (.inr rfl), if_neg e1, if_pos rfl]; omega
          · rw [if_neg (fun h => h.elim e1 e2), if_neg e1, if_neg e2]
    unfold Go.Proofs.Ytnebbhginakaiaa.roots at ih
    rw [hnew, dropsTo_succ]
    by_cases c : K.getD i 0 = 3
    · rw [if_pos c, List.length_append]; rw [if_pos c] at hdn; simp only [List.length_singleton]; omega
    · rw [if_neg c]; rw [if_neg c] at hdn; omega
theorem len_count {n : Nat} : ∀ {l : List Int}, (∀ x ∈ l, 0 ≤ x ∧ x < n) → (∀ v, v < n → l.count (v : Int) ≤ 1) → l.length ≤ n := by
  intro l h hc
  have hnd : l.Nodup := by
    rw [List.nodup_iff_count]
    intro x
    by_cases hx : x ∈ l
    · have := h x hx
      have := hc x.toNat (by omega)
      rwa [show ((x.toNat : Nat) : Int) = x by omega] at this
    · rw [List.count_eq_zero.2 hx]; omega
  have hsub : l ⊆ (List.range n).map (fun j : Nat => (j : Int)) := fun x hx => by
    have := h x hx
    exact List.mem_map.2 ⟨x.toNat, List.mem_range.2 (by omega), by omega⟩
  have := hnd.length_le_of_subset hsub
  simpa using this
theorem NiceIs.drops_le (h : NiceIs g K V B C) : (dropsTo K V K.length).length ≤ g.length :=
  len_count (h.2.2.2.2.2.1.drops h.1.n16 (Nat.le_refl _)) fun v hv => Nat.le_of_eq (h.2.2.2.2.2.2.2.2.1 v hv)
theorem le_sumN {w : Nat → Nat} {i j : Nat} (h : j < i) : w j ≤ ((List.range i).map w).sum := by
  rw [← sumN_one (w := w) i h]
  have : ∀ l : List Nat, (l.map fun x => if x = j then w x else 0).sum ≤ (l.map w).sum := by
    intro l; induction l with
    | nil => exact Nat.le_refl _
    | cons x l ih => simp only [List.map_cons, List.sum_cons]; split <;> omega
  exact this _
theorem dropsTo_mono (K V : List Int) {i m : Nat} (h : i ≤ m) : (dropsTo K V i).length ≤ (dropsTo K V m).length := by
  induction m with
  | zero => rw [Nat.le_zero.1 h]; exact Nat.le_refl _
  | succ m ih =>
    by_cases e : i = m + 1
    · subst e; exact Nat.le_refl _
    · refine Nat.le_trans (ih (by omega)) ?_
      rw [dropsTo_succ]; split
      · rw [List.length_append]; omega
      · exact Nat.le_refl _
theorem NiceIs.dn_le (h : NiceIs g K V B C) {i : Nat} (hi : i < K.length) : dn K C i ≤ 16 := by
  have h1 := h.roots (i + 1) (by omega)
  have h2 := dropsTo_mono K V (i := i + 1) (m := K.length) (by omega)
  have h3 := h.drops_le
  have h4 := h.1.n16
  have hself : ((i : Nat) : Int) ∉ kidsTo C (i + 1) := fun hm => by
    obtain ⟨j, hj, hx⟩ := mem_kidsTo hm
    have := (h.2.2.2.2.2.1 j (by omega)).2.1 _ hx; omega
  have h5 := le_sumN (w := fun j : Nat => if (j : Int) ∈ kidsTo C (i + 1) then 0 else dn K C j) (show i < i + 1 by omega)
  simp only [if_neg hself] at h5
  unfold Go.Proofs.Ytnebbhginakaiaa.roots at h1
  omega
end
end Go.Proofs.Ytnebbhginakaiaa

/- What is gathered, summed up: tables and lists of entries. -/
namespace Go.Proofs.Ytnebbhginakaiaa
def eqv (x y : Int) : Prop := wr x = wr y
theorem eqv.refl (x : Int) : eqv x x := rfl
theorem eqv.symm {x y : Int} (h : eqv x y) : eqv y x := Eq.symm h
theorem eqv.trans {x y z : Int} (h : eqv x y) (k : eqv y z) : eqv x z := Eq.trans h k
theorem eqv.wr (x : Int) : eqv (wr x) x := Int.bmod_bmod
theorem eqv.add {x y x' y' : Int} (h : eqv x y) (k : eqv x' y') : eqv (x + x') (y + y') := by
  unfold eqv at *
  rw [← wr_add, h, wr_add, ← wr_add', k, wr_add']
theorem eqv.mul {x y x' y' : Int} (h : eqv x y) (k : eqv x' y') : eqv (x * x') (y * y') := by
  unfold eqv at *
  rw [← wr_mul, h, wr_mul, Int.mul_comm y x', ← wr_mul, k, wr_mul, Int.mul_comm]
theorem eqv.eq {x y : Int} (h : eqv x y) (hx : InI x) (hy : InI y) : x = y := by rw [← wr_of hx, ← wr_of hy]; exact h
theorem eqv.sum {α : Type} {f g : α → Int} : ∀ {l : List α}, (∀ x ∈ l, eqv (f x) (g x)) → eqv (l.map f).sum (l.map g).sum
  | [], _ => eqv.refl _
  | x :: l, h => by
    rw [List.map_cons, List.map_cons, List.sum_cons, List.sum_cons]
    exact (h x (by simp)).add (eqv.sum fun y hy => h y (by simp [hy]))
theorem flatMap_same {α β : Type} {f g : α → List β} : ∀ {l : List α}, (∀ x ∈ l, f x = g x) → l.flatMap f = l.flatMap g
  | [], _ => rfl
  | x :: l, h => by rw [List.flatMap_cons, List.flatMap_cons, h x (by simp), flatMap_same fun y hy => h y (by simp [hy])]
def finT {κ : Type} (T : Tf κ) : Prop := ∃ l, IsL l T
theorem fin_no {κ : Type} : finT (noT : Tf κ) := ⟨[], IsL.empty⟩
section
variable {κ : Type} [DecidableEq κ]
abbrev pSum : Int → Int → Int := fun x y => wr (x + y)
theorem gat_supp {pick : Int → Int → Int} {a : κ} : ∀ {l : List (κ × Int)} {T : Tf κ}, gatL pick T l a ≠ none → T a ≠ none ∨ ∃ n, (a, n) ∈ l
  | [], T, h => .inl h
  | p :: l, T, h => by
    rcases gat_supp (l := l) (T := gatT pick T p) h with h | ⟨n, h⟩
    · unfold gatT at h
      by_cases c : a = p.1
      · exact .inr ⟨p.2, by rw [c]; simp⟩
      · rw [if_neg c] at h; exact .inl h
    · exact .inr ⟨n, by simp [h]⟩
theorem put_fin {T : Tf κ} (h : finT T) (a : κ) (n : Int) : finT (putT T a n) := by
  obtain ⟨l, hl⟩ := h
  cases hT : T a with
  | none => exact ⟨_, hl.push hT⟩
  | some o =>
    obtain ⟨j, hj⟩ := List.getElem?_of_mem ((hl.mem a o).1 hT)
    exact ⟨_, hl.set hj⟩
theorem gat_fin {pick : Int → Int → Int} : ∀ {l : List (κ × Int)} {T : Tf κ}, finT T → finT (gatL pick T l)
  | [], T, h => h
  | p :: l, T, h => gat_fin (l := l) (T := gatT pick T p) (put_fin h p.1 _)
end
end Go.Proofs.Ytnebbhginakaiaa

/- How many colourings there are below each node: what the reference's rows hold. -/
namespace Go.Proofs.Ytnebbhginakaiaa
section
variable {g : List (List Int)} {K V : List Int} {B C : List (List Int)}
theorem kidAt0 {i k : Nat} {r : List Int} (hc : C.getD i [] = (k : Int) :: r) : kidAt C i 0 = k := by unfold kidAt; rw [hc]; rfl
theorem kidAt1 {i k l : Nat} {r : List Int} (hc : C.getD i [] = (k : Int) :: (l : Int) :: r) : kidAt C i 1 = l := by unfold kidAt; rw [hc]; rfl
variable {k : Nat} {st : Bool} {i : Nat}
theorem nearC_congr {b : List Int} {f f' : Nat → Nat} (h : ∀ v ∈ b, f v.toNat = f' v.toNat) (v : Int) (c : Nat) : nearC g b f v c ↔ nearC g b f' v c := by
  unfold nearC
  exact ⟨fun ⟨u, h1, h2, h3⟩ => ⟨u, h1, h2, by rw [← h u h1]; exact h3⟩, fun ⟨u, h1, h2, h3⟩ => ⟨u, h1, h2, by rw [h u h1]; exact h3⟩⟩
/-! ## rows -/
noncomputable def dec (k : Nat) (b : List Int) (s : Nat) : Nat → Nat := open Classical in
  if h : ∃ f : Nat → Nat, (∀ v ∈ b, f v.toNat < k) ∧ cod k b f = s then h.choose else fun _ => 0
theorem dec_spec {k : Nat} {b : List Int} (hb : b.Pairwise (fun u v => u.toNat ≠ v.toNat)) {s : Nat} (hs : s < k ^ b.length) : (∀ v ∈ b, dec k b s v.toNat < k) ∧ cod k b (dec k b s) = s := by
  obtain ⟨f, h1, _, h3⟩ := cod_surj b hb s hs
  have e : ∃ f : Nat → Nat, (∀ v ∈ b, f v.toNat < k) ∧ cod k b f = s := ⟨f, h1, h3⟩
  unfold dec
  rw [dif_pos e]
  exact e.choose_spec
theorem cod_inj {k : Nat} : ∀ {b : List Int} {f f' : Nat → Nat}, (∀ v ∈ b, f v.toNat < k) → (∀ v ∈ b, f' v.toNat < k) → cod k b f = cod k b f' → ∀ v ∈ b, f v.toNat = f' v.toNat
  | [], _, _, _, _, _ => by simp
  | u :: b, f, f', h, h', e => by
    rw [cod_cons, cod_cons] at e
    have h1 := h u (by simp)
    have h2 := h' u (by simp)
    have e1 : f u.toNat = f' u.toNat := by
      have := congrArg (· % k) e
      simp only [Nat.add_mul_mod_self_left, Nat.mod_eq_of_lt h1, Nat.mod_eq_of_lt h2] at this
      exact this
    have e2 : cod k b f = cod k b f' := Nat.eq_of_mul_eq_mul_left (show 0 < k by omega) (by omega)
    intro v hv
    rcases List.mem_cons.1 hv with rfl | hv
    · exact e1
    · exact cod_inj (fun v hv => h v (by simp [hv])) (fun v hv => h' v (by simp [hv])) e2 v hv
noncomputable def rowOf (k : Nat) (b : List Int) (v : (Nat → Nat) → Int) : List Int := (List.range (k ^ b.length)).map fun s => v (dec k b s)
theorem rowOf_idx {β : Type} {b : List Int} (hb : b.Pairwise (fun u v => u.toNat ≠ v.toNat)) {v : (Nat → Nat) → Int} (hv : ∀ f f', (∀ x ∈ b, f x.toNat = f' x.toNat) → v f = v f') {f : Nat → Nat} (hf : ∀ x ∈ b, f x.toNat < k) (q : Int → Option β) :
    idx (rowOf k b v) ((cod k b f : Nat) : Int) q = q (v f) := by
  have hs := cod_lt hf
  unfold rowOf
  rw [idx_range hs]
  have hd := dec_spec hb hs
  rw [hv _ f (cod_inj hd.1 hf hd.2)]
noncomputable def rowTo (k : Nat) (b : List Int) (v : (Nat → Nat) → Int) (s : Nat) : List Int := (List.range (k ^ b.length)).map fun t => if t < s then v (dec k b t) else 0
theorem rowTo_all (k : Nat) (b : List Int) (v : (Nat → Nat) → Int) : rowTo k b v (k ^ b.length) = rowOf k b v := List.map_congr_left fun t ht => if_pos (by simpa using ht)
theorem rowTo_zero (k : Nat) (b : List Int) (v : (Nat → Nat) → Int) : rowTo k b v 0 = List.replicate (k ^ b.length) 0 := by
  unfold rowTo
  rw [List.eq_replicate_iff]
  exact ⟨by simp, fun x hx => by obtain ⟨t, _, rfl⟩ := List.mem_map.1 hx; exact if_neg (by omega)⟩
theorem rowTo_len (k : Nat) (b : List Int) (v : (Nat → Nat) → Int) (s : Nat) : (rowTo k b v s).length = k ^ b.length := by simp [rowTo]
theorem rowTo_set {b : List Int} {v : (Nat → Nat) → Int} {s : Nat} (hs : s < k ^ b.length) {x : Int} (hx : v (dec k b s) = x) : (rowTo k b v s).set s x = rowTo k b v (s + 1) := by
  unfold rowTo
  refine range_set hs ?_ fun t ht => ?_
  · rw [if_pos (by omega)]; exact hx
  · by_cases c : t < s
    · rw [if_pos c, if_pos (by omega)]
    · rw [if_neg c, if_neg (by omega)]
theorem rowTo_skip {b : List Int} {v : (Nat → Nat) → Int} {s : Nat} (hx : v (dec k b s) = 0) : rowTo k b v s = rowTo k b v (s + 1) := by
  unfold rowTo
  refine List.map_congr_left fun t _ => ?_
  by_cases c : t < s
  · rw [if_pos c, if_pos (by omega)]
  · rw [if_neg c]
    by_cases e : t = s
    · subst e; rw [if_pos (by omega), hx]
    · rw [if_neg (by omega)]
theorem getD_idx {β : Type} {l : List Int} {i : Nat} (h : i < l.length) (q : Int → Option β) : idx l (i : Int) q = q (l.getD i 0) := by
  rw [idx_nat h, List.getD_eq_getElem?_getD, List.getElem?_eq_getElem h]; rfl
theorem getL_idx {α β : Type} {l : List (List α)} {i : Nat} (h : i < l.length) (q : List α → Option β) : idx l (i : Int) q = q (l.getD i []) := by
  rw [idx_nat h, List.getD_eq_getElem?_getD, List.getElem?_eq_getElem h]; rfl
noncomputable def rows (k : Nat) (B : List (List Int)) (v : Nat → (Nat → Nat) → Int) (i : Nat) : List (List Int) := (List.range i).map fun j => rowOf k (B.getD j []) (v j)
theorem rows_len (k : Nat) (B : List (List Int)) (v : Nat → (Nat → Nat) → Int) (i : Nat) : (rows k B v i).length = i := by simp [rows]
theorem rows_idx {β : Type} {v : Nat → (Nat → Nat) → Int} {i j : Nat} (h : j < i) (q : List Int → Option β) : idx (rows k B v i) (j : Int) q = q (rowOf k (B.getD j []) (v j)) := by
  rw [idx_nat (by rw [rows_len]; exact h)]
  simp [rows]
theorem rows_succ (v : Nat → (Nat → Nat) → Int) (i : Nat) : rows k B v (i + 1) = rows k B v i ++ [rowOf k (B.getD i []) (v i)] := by unfold rows; rw [List.range_succ, List.map_append]; rfl
end
end Go.Proofs.Ytnebbhginakaiaa

/- What the run over tables finds, for rules that count: as many as the reference. -/
namespace Go.Proofs.Ytnebbhginakaiaa
def valid (k : Nat) (b : List Int) (f : Nat → Nat) : Prop := ∀ v ∈ b, f v.toNat < k
open Classical in
noncomputable def mayC (g : List (List Int)) (k : Nat) (st : Bool) (b : List Int) (v : Int) (f : Nat → Nat) : List Nat := (List.range k).filter fun c => decide ((st = true ∧ c = 0) ∨ ¬ nearC g b (upd1 f v.toNat c) v c)
structure Lin (κ : Type) [DecidableEq κ] (g : List (List Int)) (k : Nat) (st : Bool) (mask : List Int → Option (BitVec 32)) (R : Ru κ) (key : List Int → (Nat → Nat) → κ) : Prop where
  same : ∀ {b f f'}, Rises b g.length → valid k b f → valid k b f' → (key b f = key b f' ↔ ∀ v ∈ b, f v.toNat = f' v.toNat)
  msk : ∀ {b}, Rises b g.length → ∃ mb, mask b = some mb
  add : ∀ {b1 b2 v f mb}, Rises (b1 ++ v :: b2) g.length → Rises (b1 ++ b2) g.length → mask (b1 ++ b2) = some mb → valid k (b1 ++ b2) f →
    R.add (key (b1 ++ b2) f) v mb = some ((mayC g k st (b1 ++ v :: b2) v f).map fun c => key (b1 ++ v :: b2) (upd1 f v.toNat c))
  drop : ∀ {b1 b2 v f mb n}, Rises (b1 ++ v :: b2) g.length → Rises (b1 ++ b2) g.length → mask (b1 ++ b2) = some mb → valid k (b1 ++ v :: b2) f → InI n → R.drop (key (b1 ++ v :: b2) f) v mb n = some (putT noT (key (b1 ++ b2) f) n)
  meet : ∀ s t, R.meet s t = (s, decide (s = t))
  both : ∀ x y, R.both x y = wr (x * y)
  pick : R.pick = pSum
section
variable {κ : Type} [DecidableEq κ] {g : List (List Int)} {K V : List Int} {B C : List (List Int)} {k : Nat} {st : Bool} {mask : List Int → Option (BitVec 32)} {R : Ru κ} {key : List Int → (Nat → Nat) → κ}
theorem lst_put (a : κ) (n : Int) : lst (putT noT a n) = [(a, n)] := by
  have h : IsL [(a, n)] (putT (noT : Tf κ) a n) := by have := (IsL.empty (κ := κ)).push (a := a) (n := n) rfl; simpa using this
  exact List.perm_singleton.1 ((lst_is h).perm h)
theorem upd_self {b1 b2 : List Int} {v : Int} (hne : ∀ u ∈ b1 ++ b2, u.toNat ≠ v.toNat) (f : Nat → Nat) (c : Nat) : ∀ u ∈ b1 ++ b2, upd1 f v.toNat c u.toNat = f u.toNat := fun u hu => by unfold upd1; rw [if_neg (hne u hu)]
theorem valid_less {b1 b2 : List Int} {v : Int} {f : Nat → Nat} (h : valid k (b1 ++ v :: b2) f) : valid k (b1 ++ b2) f := fun u hu => h u (by simp at hu ⊢; rcases hu with h | h; exact .inl h; exact .inr (.inr h))
theorem valid_more {b1 b2 : List Int} {v : Int} {f : Nat → Nat} {c : Nat} (h : valid k (b1 ++ b2) f) (hc : c < k) : valid k (b1 ++ v :: b2) (upd1 f v.toNat c) := fun u hu => by
  unfold upd1
  split
  · exact hc
  · rename_i hn
    refine h u ?_
    simp only [List.mem_append, List.mem_cons] at hu ⊢
    rcases hu with h | h | h
    · exact .inl h
    · subst h; exact absurd rfl hn
    · exact .inr h
theorem nodup_split {b1 b2 : List Int} {v : Int} (h : (b1 ++ v :: b2).Pairwise (fun u v => u.toNat ≠ v.toNat)) : ∀ u ∈ b1 ++ b2, u.toNat ≠ v.toNat := fun u hu => by
  rcases List.mem_append.1 hu with g1 | g1
  · exact (List.pairwise_append.1 h).2.2 u g1 v (by simp)
  · exact fun e => (List.pairwise_cons.1 (List.pairwise_append.1 h).2.1).1 u g1 e.symm
open Classical in
theorem mayC_upd {b1 b2 : List Int} {v : Int} {f : Nat → Nat} (hn : ∀ u ∈ b1 ++ b2, u.toNat ≠ v.toNat) (hc : f v.toNat < k) :
    f v.toNat ∈ mayC g k st (b1 ++ v :: b2) v f ↔ ((st = true ∧ f v.toNat = 0) ∨ ¬ nearC g (b1 ++ v :: b2) f v (f v.toNat)) := by
  have e : upd1 f v.toNat (f v.toNat) = f := by funext x; unfold upd1; split; rename_i h; rw [h]; rfl
  unfold mayC
  rw [List.mem_filter, List.mem_range, decide_eq_true_iff, e]
  exact ⟨fun h => h.2, fun h => ⟨hc, h⟩⟩
end
end Go.Proofs.Ytnebbhginakaiaa

/- Sets as keys: the rule of stable sets counts. -/
namespace Go.Proofs.Ytnebbhginakaiaa
def mks (b : List Int) (f : Nat → Nat) : Nat := mk (b.filter fun v => decide (f v.toNat = 1))
def keyU (b : List Int) (f : Nat → Nat) : BitVec 32 := BitVec.ofNat 32 (mks b f)
theorem mks_bit (b : List Int) (f : Nat → Nat) (j : Nat) : (mks b f).testBit j = decide (∃ u ∈ b, f u.toNat = 1 ∧ u.toNat = j) := by
  unfold mks
  rw [mk_bit, decide_eq_decide]
  constructor
  · rintro ⟨u, hu, rfl⟩
    rw [List.mem_filter] at hu
    exact ⟨u, hu.1, by simpa using hu.2, rfl⟩
  · rintro ⟨u, hu, h1, rfl⟩
    exact ⟨u, List.mem_filter.2 ⟨hu, by simpa using h1⟩, rfl⟩
theorem mks_iff (b : List Int) (f : Nat → Nat) (j : Nat) : (mks b f).testBit j = true ↔ ∃ u ∈ b, f u.toNat = 1 ∧ u.toNat = j := by rw [mks_bit, decide_eq_true_iff]
theorem mks_lt {b : List Int} {n : Nat} (hb : Rises b n) (f : Nat → Nat) : mks b f < 2 ^ n := mk_lt fun v hv => by
  have := hb.mem (List.mem_filter.1 hv).1; omega
theorem mks_32 {b : List Int} {n : Nat} (hn : n ≤ 16) (hb : Rises b n) (f : Nat → Nat) : mks b f < 2 ^ 32 := Nat.lt_of_lt_of_le (mks_lt hb f) (Nat.pow_le_pow_right (by decide) (by omega))
theorem ofNat_inj32 {a b : Nat} (ha : a < 2 ^ 32) (hb : b < 2 ^ 32) : BitVec.ofNat 32 a = BitVec.ofNat 32 b ↔ a = b := by
  constructor
  · intro h
    have := congrArg BitVec.toNat h
    rwa [BitVec.toNat_ofNat, BitVec.toNat_ofNat, Nat.mod_eq_of_lt ha, Nat.mod_eq_of_lt hb] at this
  · intro h; rw [h]
theorem keyU_same {b : List Int} {n : Nat} (hn : n ≤ 16) (hb : Rises b n) {f f' : Nat → Nat} (hf : valid 2 b f) (hf' : valid 2 b f') : keyU b f = keyU b f' ↔ ∀ v ∈ b, f v.toNat = f' v.toNat := by
  unfold keyU
  rw [ofNat_inj32 (mks_32 hn hb f) (mks_32 hn hb f')]
  have one : ∀ (f : Nat → Nat) (v : Int), v ∈ b → ((mks b f).testBit v.toNat = true ↔ f v.toNat = 1) := fun f v hv => by
    rw [mks_bit, decide_eq_true_iff]
    exact ⟨fun ⟨u, hu, h1, h2⟩ => by rw [← h2]; exact h1, fun h => ⟨v, hv, h, rfl⟩⟩
  constructor
  · intro h v hv
    have h1 := one f v hv
    have h2 := one f' v hv
    rw [h] at h1
    have := hf v hv; have := hf' v hv
    by_cases c : f' v.toNat = 1
    · rw [c, h1.1 (h2.2 c)]
    · have : ¬ f v.toNat = 1 := fun e => c (h2.1 (h1.2 e))
      omega
  · intro h
    refine bits_ext fun j => ?_
    rw [mks_bit, mks_bit, decide_eq_decide]
    exact ⟨fun ⟨u, hu, h1, h2⟩ => ⟨u, hu, by rw [← h u hu]; exact h1, h2⟩, fun ⟨u, hu, h1, h2⟩ => ⟨u, hu, by rw [h u hu]; exact h1, h2⟩⟩
theorem mks_congr {b : List Int} {f f' : Nat → Nat} (h : ∀ v ∈ b, f v.toNat = f' v.toNat) : mks b f = mks b f' := by
  refine bits_ext fun j => ?_
  rw [mks_bit, mks_bit, decide_eq_decide]
  exact ⟨fun ⟨u, hu, h1, h2⟩ => ⟨u, hu, by rw [← h u hu]; exact h1, h2⟩, fun ⟨u, hu, h1, h2⟩ => ⟨u, hu, by rw [h u hu]; exact h1, h2⟩⟩
theorem mks_more {b1 b2 : List Int} {v : Int} {f : Nat → Nat} (hn : ∀ u ∈ b1 ++ b2, u.toNat ≠ v.toNat) (c : Nat) : mks (b1 ++ v :: b2) (upd1 f v.toNat c) = if c = 1 then mks (b1 ++ b2) f ||| 2 ^ v.toNat else mks (b1 ++ b2) f := by
  have hmem : ∀ {u : Int}, u ∈ b1 ++ v :: b2 ↔ u = v ∨ u ∈ b1 ++ b2 := fun {u} => by
    simp only [List.mem_append, List.mem_cons]
    exact ⟨fun h => by rcases h with h | h | h; exact .inr (.inl h); exact .inl h; exact .inr (.inr h), fun h => by rcases h with h | h | h; exact .inr (.inl h); exact .inl h; exact .inr (.inr h)⟩
  refine bits_ext fun j => ?_
  have hv : upd1 f v.toNat c v.toNat = c := by unfold upd1; rw [if_pos rfl]
  have hex : (∃ u ∈ b1 ++ v :: b2, upd1 f v.toNat c u.toNat = 1 ∧ u.toNat = j) ↔ (c = 1 ∧ v.toNat = j) ∨ ∃ u ∈ b1 ++ b2, f u.toNat = 1 ∧ u.toNat = j := by
    constructor
    · rintro ⟨u, hu, h1, h2⟩
      rcases hmem.1 hu with rfl | hu
      · exact .inl ⟨by rw [← hv]; exact h1, h2⟩
      · rw [upd_self hn f c u hu] at h1; exact .inr ⟨u, hu, h1, h2⟩
    · rintro (⟨h1, h2⟩ | ⟨u, hu, h1, h2⟩)
      · exact ⟨v, hmem.2 (.inl rfl), by rw [hv]; exact h1, h2⟩
      · exact ⟨u, hmem.2 (.inr hu), by rw [upd_self hn f c u hu]; exact h1, h2⟩
  by_cases hc : c = 1
  · rw [if_pos hc, Bool.eq_iff_iff, mks_iff, hex, Nat.testBit_or, Bool.or_eq_true, mks_iff, Nat.testBit_two_pow, decide_eq_true_iff]
    exact ⟨fun h => h.elim (fun h => .inr h.2) .inl, fun h => h.elim .inr (fun h => .inl ⟨hc, h⟩)⟩
  · rw [if_neg hc, Bool.eq_iff_iff, mks_iff, hex, mks_iff]
    exact ⟨fun h => h.elim (fun h => absurd h.1 hc) id, .inr⟩
theorem mks_less {b1 b2 : List Int} {v : Int} {f : Nat → Nat} (hn : ∀ u ∈ b1 ++ b2, u.toNat ≠ v.toNat) : sdiff (mks (b1 ++ v :: b2) f) (2 ^ v.toNat) = mks (b1 ++ b2) f := by
  refine bits_ext fun j => ?_
  rw [Bool.eq_iff_iff, sdiff_bit, Bool.and_eq_true, mks_iff, mks_iff, Nat.testBit_two_pow]
  by_cases e : v.toNat = j
  · subst e
    have : ¬ ∃ u ∈ b1 ++ b2, f u.toNat = 1 ∧ u.toNat = v.toNat := fun ⟨u, hu, _, h2⟩ => hn u hu h2
    exact ⟨fun h => absurd h.2 (by simp), fun h => absurd h this⟩
  · have : (∃ u ∈ b1 ++ v :: b2, f u.toNat = 1 ∧ u.toNat = j) ↔ ∃ u ∈ b1 ++ b2, f u.toNat = 1 ∧ u.toNat = j := by
      constructor
      · rintro ⟨u, hu, h1, h2⟩
        refine ⟨u, ?_, h1, h2⟩
        simp only [List.mem_append, List.mem_cons] at hu ⊢
        rcases hu with h | h | h
        · exact .inl h
        · subst h; exact absurd h2 e
        · exact .inr h
      · rintro ⟨u, hu, h1, h2⟩
        refine ⟨u, ?_, h1, h2⟩
        simp only [List.mem_append, List.mem_cons] at hu ⊢
        rcases hu with h | h
        · exact .inl h
        · exact .inr (.inr h)
    rw [this]; exact ⟨fun h => h.1, fun h => ⟨h, by simp [e]⟩⟩
theorem mks_has {b1 b2 : List Int} {v : Int} {f : Nat → Nat} (hn : ∀ u ∈ b1 ++ b2, u.toNat ≠ v.toNat) : (mks (b1 ++ v :: b2) f).testBit v.toNat = decide (f v.toNat = 1) := by
  rw [mks_bit, decide_eq_decide]
  constructor
  · rintro ⟨u, hu, h1, h2⟩; rw [← h2]; exact h1
  · intro h; exact ⟨v, by simp, h, rfl⟩
section
variable {g : List (List Int)}
theorem row_of (hg : GOk g) {v : Int} (h0 : 0 ≤ v) (h1 : v < g.length) : g.getD v.toNat [] = g[v.toNat]'(by omega) := by rw [List.getD_eq_getElem?_getD, List.getElem?_eq_getElem]; rfl
theorem nets_near (hg : GOk g) {b : List Int} {n : Nat} (hb : Rises b n) (hn : n ≤ 16) {f : Nat → Nat} {v : Int} (h0 : 0 ≤ v) (h1 : v < g.length) : (BitVec.ofNat 32 (mk (g.getD v.toNat [])) &&& keyU b f ≠ 0#32) ↔ ∃ u ∈ b, u ∈ g.getD v.toNat [] ∧ f u.toNat = 1 := by
  have hrow := hg.rows v.toNat (by omega)
  rw [row_of hg h0 h1]
  have hlt : mk (g[v.toNat]'(by omega)) &&& mks b f < 2 ^ 32 := Nat.lt_of_le_of_lt Nat.and_le_left (Nat.lt_of_lt_of_le hrow.1.lt (Nat.pow_le_pow_right (by decide) (by have := hg.n16; omega)))
  unfold keyU
  rw [← BitVec.ofNat_and, show (0#32 : BitVec 32) = BitVec.ofNat 32 0 from rfl, ne_eq, ofNat_inj32 hlt (by decide)]
  constructor
  · intro hne
    refine Classical.byContradiction fun hno => hne ?_
    refine bits_ext fun j => ?_
    rw [Nat.zero_testBit, Nat.testBit_and, mk_bit, mks_bit]
    by_cases c : ∃ u ∈ b, f u.toNat = 1 ∧ u.toNat = j
    · obtain ⟨u, hu, h2, rfl⟩ := c
      have : ¬ ∃ w ∈ g[v.toNat]'(by omega), w.toNat = u.toNat := fun ⟨w, hw, e⟩ => by
        have h5 := hrow.1.mem hw
        have h6 := hb.mem hu
        have e3 : w = u := by omega
        subst e3
        exact hno ⟨w, hu, hw, h2⟩
      rw [decide_eq_false this]; rfl
    · rw [decide_eq_false c]; simp
  · rintro ⟨u, hu, h2, h3⟩ e
    have := congrArg (fun m => Nat.testBit m u.toNat) e
    simp only [Nat.zero_testBit, Nat.testBit_and, mk_bit, mks_bit] at this
    rw [decide_eq_true ⟨u, h2, rfl⟩, decide_eq_true ⟨u, hu, h3, rfl⟩] at this
    cases this
theorem near_upd (hg : GOk g) {b1 b2 : List Int} {f : Nat → Nat} {v : Int} (h0 : 0 ≤ v) (h1 : v < g.length) (hn : ∀ u ∈ b1 ++ b2, u.toNat ≠ v.toNat) (c : Nat) : nearC g (b1 ++ v :: b2) (upd1 f v.toNat c) v c ↔ ∃ u ∈ b1 ++ b2, u ∈ g.getD v.toNat [] ∧ f u.toNat = c := by
  have hloop : v ∉ g.getD v.toNat [] := by
    rw [row_of hg h0 h1]
    have := (hg.rows v.toNat (by omega)).2
    rwa [show ((v.toNat : Nat) : Int) = v by omega] at this
  constructor
  · rintro ⟨u, hu, h2, h3⟩
    have hu' : u ∈ b1 ++ b2 := by
      simp only [List.mem_append, List.mem_cons] at hu ⊢
      rcases hu with h | h | h
      · exact .inl h
      · subst h; exact absurd h2 hloop
      · exact .inr h
    exact ⟨u, hu', h2, by rw [← upd_self hn f c u hu']; exact h3⟩
  · rintro ⟨u, hu, h2, h3⟩
    refine ⟨u, ?_, h2, by rw [upd_self hn f c u hu]; exact h3⟩
    simp only [List.mem_append, List.mem_cons] at hu ⊢
    exact hu.imp id .inr
theorem rises_nodup {n : Nat} (hn : n ≤ 16) {b : List Int} (hb : Rises b n) : b.Pairwise (fun u v => u.toNat ≠ v.toNat) :=
  List.Pairwise.imp_of_mem (fun {u v} hu hv huv => by have := hb.mem hu; have := hb.mem hv; omega) (hb.sorted hn)
open Classical in
theorem stab_lin (hg : GOk g) : Lin (BitVec 32) g 2 true F_impl_maskOf (stRu (bvs (nb g)) (fun _ => some 0) (fun x y => wr (x * y)) pSum) keyU where
  same {b f f'} hb hf hf' := keyU_same hg.n16 hb hf hf'
  msk {b} hb := ⟨_, maskOf_eq (fun v hv => by have := hb.mem hv; have := hg.n16; omega) (by have := hb.len16 hg.n16; omega)⟩
  add {b1 b2 v f mb} hr hrk hmb hf := by
    have h16 := hg.n16
    have hv := hr.mem (x := v) (by simp)
    have hnd := nodup_split (rises_nodup h16 hr)
    have hrow : (nb g)[v.toNat]'(by rw [nb_len]; omega) = mk (g.getD v.toNat []) := by rw [row_of hg hv.1 hv.2]; simp [nb]
    have hnear := nets_near hg hrk h16 (f := f) hv.1 hv.2
    show F_impl_stableRule_1 (keyU (b1 ++ b2) f) v mb (bvs (nb g)) = _
    unfold F_impl_stableRule_1
    have e0 : ((v.toNat : Nat) : Int) = v := by omega
    rw [show idx (bvs (nb g)) v = idx (bvs (nb g)) ((v.toNat : Nat) : Int) by rw [e0], idx_bvs (by rw [nb_len]; omega), hrow]
    have hk0 : keyU (b1 ++ v :: b2) (upd1 f v.toNat 0) = keyU (b1 ++ b2) f := by unfold keyU; rw [mks_more hnd 0, if_neg (by decide)]
    have hk1 : keyU (b1 ++ v :: b2) (upd1 f v.toNat 1) = keyU (b1 ++ b2) f ||| BitVec.ofNat 32 (2 ^ v.toNat) := by unfold keyU; rw [mks_more hnd 1, if_pos rfl, BitVec.ofNat_or]
    have hu1 := near_upd hg (f := f) hv.1 hv.2 hnd 1
    have hm : mayC g 2 true (b1 ++ v :: b2) v f = if ∃ u ∈ b1 ++ b2, u ∈ g.getD v.toNat [] ∧ f u.toNat = 1 then [0] else [0, 1] := by
      unfold mayC
      rw [show List.range 2 = [0, 1] from rfl, List.filter_cons_of_pos (by simp)]
      by_cases c : ∃ u ∈ b1 ++ b2, u ∈ g.getD v.toNat [] ∧ f u.toNat = 1
      · rw [if_pos c, List.filter_cons_of_neg (by rw [decide_eq_false (by rintro (h | h); exact absurd h.2 (by decide); exact h (hu1.2 c))]; simp)]; rfl
      · rw [if_neg c, List.filter_cons_of_pos (by rw [decide_eq_true (.inr fun h => c (hu1.1 h))])]; rfl
    rw [hm]
    by_cases c : ∃ u ∈ b1 ++ b2, u ∈ g.getD v.toNat [] ∧ f u.toNat = 1
    · rw [if_pos (hnear.2 c), if_pos c, List.map_cons, List.map_nil, hk0]
    · rw [if_neg (fun h => c (hnear.1 h)), if_neg c, show F_impl_one v = F_impl_one ((v.toNat : Nat) : Int) by rw [e0], cal_of (one_eq (by omega)), List.map_cons, List.map_cons, List.map_nil, hk0, hk1]
  drop {b1 b2 v f mb n} hr hrk hmb hf hn := by
    have h16 := hg.n16
    have hv := hr.mem (x := v) (by simp)
    have hnd := nodup_split (rises_nodup h16 hr)
    have e0 : ((v.toNat : Nat) : Int) = v := by omega
    show stDrop (fun _ => some 0) (keyU (b1 ++ v :: b2) f) v n = _
    unfold stDrop
    rw [show F_impl_vset_has (keyU (b1 ++ v :: b2) f) v = F_impl_vset_has (keyU (b1 ++ v :: b2) f) ((v.toNat : Nat) : Int) by rw [e0], keyU, cal_of (has_eq (mks_32 h16 hr f) (by omega))]
    have e1 : (if (mks (b1 ++ v :: b2) f).testBit v.toNat = true then cal (some (0 : Int)) (fun x => some (wr (n + x))) else some n) = some n := by
      split
      · show some (wr (n + 0)) = some n
        rw [Int.add_zero, wr_of hn]
      · rfl
    rw [cal_of e1, show F_impl_one v = F_impl_one ((v.toNat : Nat) : Int) by rw [e0], cal_of (one_eq (by omega)), bv_andn (mks_32 h16 hr f), mks_less hnd]; rfl
  meet s t := rfl
  both x y := rfl
  pick := rfl
end
end Go.Proofs.Ytnebbhginakaiaa

/- What is gathered under one key, whatever gathers it. -/
namespace Go.Proofs.Ytnebbhginakaiaa
def optF (pick : Int → Int → Int) (l : List Int) : Option Int := gatL pick (noT : Tf Unit) (l.map fun x => ((), x)) ()
theorem optF_one (pick : Int → Int → Int) (x : Int) : optF pick [x] = some x := rfl
theorem optF_two (pick : Int → Int → Int) (x y : Int) : optF pick [x, y] = some (pick x y) := rfl
theorem optF_perm {pick : Int → Int → Int} (hp : Picks pick) {l l' : List Int} (h : l.Perm l') : optF pick l = optF pick l' := congrFun (gatL_perm hp (h.map _) _) ()
section
variable {κ : Type}
def entOf (T : Tf κ) (cands : List κ) : List (κ × Int) := cands.filterMap fun s => (T s).map fun n => (s, n)
theorem mem_entOf {T : Tf κ} {cands : List κ} {p : κ × Int} : p ∈ entOf T cands ↔ p.1 ∈ cands ∧ T p.1 = some p.2 := by
  unfold entOf
  rw [List.mem_filterMap]
  constructor
  · rintro ⟨s, hs, h⟩
    cases hT : T s with
    | none => rw [hT] at h; cases h
    | some n => rw [hT] at h; obtain rfl := Option.some.inj h; exact ⟨hs, hT⟩
  · rintro ⟨h1, h2⟩
    exact ⟨p.1, h1, by rw [h2]; rfl⟩
theorem entOf_nodup {T : Tf κ} : ∀ {cands : List κ}, cands.Nodup → (entOf T cands).Nodup
  | [], _ => List.nodup_nil
  | c :: cs, h => by
    rw [List.nodup_cons] at h
    unfold entOf
    rw [List.filterMap_cons]
    cases hT : T c with
    | none => exact entOf_nodup h.2
    | some n =>
      refine List.nodup_cons.2 ⟨fun hm => h.1 ?_, entOf_nodup h.2⟩
      exact (mem_entOf (T := T) (cands := cs) (p := (c, n)).1 hm).1
theorem entOf_one (T : Tf κ) (s : κ) : entOf T [s] = match T s with | some n => [(s, n)] | none => [] := by
  unfold entOf
  rw [List.filterMap_cons]
  cases T s <;> rfl
theorem entOf_cons (T : Tf κ) (s : κ) (cs : List κ) : entOf T (s :: cs) = (match T s with | some n => [(s, n)] | none => []) ++ entOf T cs := by
  unfold entOf
  rw [List.filterMap_cons]
  cases T s <;> rfl
end
section
variable {κ : Type} [DecidableEq κ]
def valsAt (l : List (κ × Int)) (a : κ) : List Int := (l.filter fun p => decide (p.1 = a)).map (·.2)
theorem valsAt_append (l l' : List (κ × Int)) (a : κ) : valsAt (l ++ l') a = valsAt l a ++ valsAt l' a := by unfold valsAt; rw [List.filter_append, List.map_append]
theorem valsAt_flatMap {α : Type} (g : α → List (κ × Int)) (a : κ) : ∀ (l : List α), valsAt (l.flatMap g) a = l.flatMap fun p => valsAt (g p) a
  | [] => rfl
  | x :: l => by rw [List.flatMap_cons, List.flatMap_cons, valsAt_append, valsAt_flatMap g a l]
theorem gat_at (pick : Int → Int → Int) (a : κ) : ∀ (l : List (κ × Int)) (T : Tf κ), gatL pick T l a = gatL pick (fun _ : Unit => T a) ((valsAt l a).map fun x => ((), x)) ()
  | [], T => rfl
  | p :: l, T => by
    show gatL pick (gatT pick T p) l a = _
    rw [gat_at pick a l (gatT pick T p)]
    unfold valsAt
    by_cases c : p.1 = a
    · rw [List.filter_cons_of_pos (by simp [c]), List.map_cons, List.map_cons]
      show _ = gatL pick (gatT pick (fun _ : Unit => T a) ((), p.2)) _ ()
      congr 1
      funext u
      unfold gatT
      rw [if_pos c.symm, if_pos rfl, c]
    · rw [List.filter_cons_of_neg (by simp [c])]
      congr 1
      funext u
      unfold gatT
      rw [if_neg (fun h => c h.symm)]
theorem gat_no (pick : Int → Int → Int) (l : List (κ × Int)) (a : κ) : gatL pick noT l a = optF pick (valsAt l a) := gat_at pick a l noT
theorem valsAt_one (b a : κ) (n : Int) : valsAt [(b, n)] a = if b = a then [n] else [] := by
  unfold valsAt
  by_cases c : b = a
  · rw [if_pos c, List.filter_cons_of_pos (by simp [c])]; rfl
  · rw [if_neg c, List.filter_cons_of_neg (by simp [c])]; rfl
theorem valsAt_map {α : Type} (l : List α) (h : α → κ) (n : Int) (a : κ) : valsAt (l.map fun c => (h c, n)) a = (l.filter fun c => decide (h c = a)).map fun _ => n := by
  unfold valsAt
  rw [List.filter_map, List.map_map]; rfl
theorem flatMap_sub {α β : Type} (p : α → Bool) (g : α → List β) : ∀ {l : List α}, (∀ x ∈ l, p x = false → g x = []) → l.flatMap g = (l.filter p).flatMap g
  | [], _ => rfl
  | x :: l, h => by
    have ih := flatMap_sub p g (l := l) fun y hy => h y (by simp [hy])
    rw [List.flatMap_cons]
    cases c : p x with
    | true => rw [List.filter_cons_of_pos c, List.flatMap_cons, ih]
    | false => rw [List.filter_cons_of_neg (by simp [c]), h x (by simp) c, ih]; rfl
theorem gatF_at {R : Ru κ} (hR : Picks R.pick) {T : Tf κ} (hT : finT T) {f : κ × Int → Option (List (κ × Int))} (g : κ × Int → List (κ × Int)) (hf : ∀ a n, T a = some n → f (a, n) = some (g (a, n))) :
    ∃ T', gatF R T f = some T' ∧ finT T' ∧ (∀ a, T' a ≠ none → ∃ s n m, T s = some n ∧ (a, m) ∈ g (s, n)) ∧
      ∀ a (cands : List κ), cands.Nodup → (∀ s n, T s = some n → s ∉ cands → valsAt (g (s, n)) a = []) → T' a = optF R.pick ((entOf T cands).flatMap fun p => valsAt (g p) a) := by
  obtain ⟨l0, hl0⟩ := hT
  have hl := lst_is hl0
  have e : (lst T).flatMap (fun p => (f p).getD []) = (lst T).flatMap g := flatMap_same fun p hp => by rw [hf p.1 p.2 ((hl.mem p.1 p.2).2 hp)]; rfl
  refine ⟨_, by unfold gatF; rw [if_pos (fun a n h => by rw [hf a n h]; rfl)], gat_fin fin_no, fun a ha => ?_, fun a cands hn h0 => ?_⟩
  · rw [e] at ha
    rcases gat_supp ha with h | ⟨m, h⟩
    · exact absurd rfl h
    · obtain ⟨p, hp, hm⟩ := List.mem_flatMap.1 h
      exact ⟨p.1, p.2, m, (hl.mem p.1 p.2).2 hp, hm⟩
  · rw [e, gat_no, valsAt_flatMap, flatMap_sub (fun p => decide (p.1 ∈ cands)) _ (fun p hp hc => h0 p.1 p.2 ((hl.mem p.1 p.2).2 hp) (by simpa using hc))]
    refine optF_perm hR (List.Perm.flatMap_right _ ?_)
    refine (List.perm_ext_iff_of_nodup ((nodup_of_fst hl.nd).filter _) (entOf_nodup hn)).2 fun p => ?_
    rw [List.mem_filter, mem_entOf, decide_eq_true_iff]
    exact ⟨fun ⟨h1, h2⟩ => ⟨h2, (hl.mem p.1 p.2).2 h1⟩, fun ⟨h1, h2⟩ => ⟨(hl.mem p.1 p.2).1 h2, h1⟩⟩
end
end Go.Proofs.Ytnebbhginakaiaa

/- The heaviest stable sets below each node: the reference's rows, the run's tables. -/
namespace Go.Proofs.Ytnebbhginakaiaa
section
variable {g : List (List Int)} {K V : List Int} {B C : List (List Int)} {ws : List Int}
open Classical in
noncomputable def wval (g : List (List Int)) (K V : List Int) (B C : List (List Int)) (ws : List Int) (i : Nat) (f : Nat → Nat) : Int :=
  if K.getD i 0 = 1 then 0
  else if K.getD i 0 = 2 then (if f (V.getD i 0).toNat = 1 ∧ nearC g (B.getD i []) f (V.getD i 0) 1 then -1 else (if h : kidAt C i 0 < i then wval g K V B C ws (kidAt C i 0) f else 0))
  else if K.getD i 0 = 3 then (if h : kidAt C i 0 < i then
      (if 0 ≤ wval g K V B C ws (kidAt C i 0) (upd1 f (V.getD i 0).toNat 1) then max (wval g K V B C ws (kidAt C i 0) (upd1 f (V.getD i 0).toNat 0)) (wval g K V B C ws (kidAt C i 0) (upd1 f (V.getD i 0).toNat 1) + ws.getD (V.getD i 0).toNat 0)
       else wval g K V B C ws (kidAt C i 0) (upd1 f (V.getD i 0).toNat 0)) else 0)
  else if h : kidAt C i 0 < i ∧ kidAt C i 1 < i then
    (if wval g K V B C ws (kidAt C i 0) f < 0 ∨ wval g K V B C ws (kidAt C i 1) f < 0 then -1 else wval g K V B C ws (kidAt C i 0) f + wval g K V B C ws (kidAt C i 1) f) else 0
termination_by i
decreasing_by all_goals first | exact h | exact h.1 | exact h.2
variable {i : Nat}
theorem wval_leaf (hk : K.getD i 0 = 1) (f : Nat → Nat) : wval g K V B C ws i f = 0 := by rw [wval, if_pos hk]
open Classical in
theorem wval_add (hk : K.getD i 0 = 2) {j : Nat} (hj : j < i) (hc : C.getD i [] = [(j : Int)]) (f : Nat → Nat) :
    wval g K V B C ws i f = if f (V.getD i 0).toNat = 1 ∧ nearC g (B.getD i []) f (V.getD i 0) 1 then -1 else wval g K V B C ws j f := by
  rw [wval, if_neg (by omega), if_pos hk, dif_pos (by rw [kidAt0 hc]; exact hj), kidAt0 hc]
theorem wval_drop (hk : K.getD i 0 = 3) {j : Nat} (hj : j < i) (hc : C.getD i [] = [(j : Int)]) (f : Nat → Nat) :
    wval g K V B C ws i f = if 0 ≤ wval g K V B C ws j (upd1 f (V.getD i 0).toNat 1) then max (wval g K V B C ws j (upd1 f (V.getD i 0).toNat 0)) (wval g K V B C ws j (upd1 f (V.getD i 0).toNat 1) + ws.getD (V.getD i 0).toNat 0) else wval g K V B C ws j (upd1 f (V.getD i 0).toNat 0) := by
  rw [wval, if_neg (by omega), if_neg (by omega), if_pos hk, dif_pos (by rw [kidAt0 hc]; exact hj), kidAt0 hc]
theorem wval_meet (hk : K.getD i 0 = 4) {j l : Nat} (hj : j < i) (hl : l < i) (hc : C.getD i [] = [(j : Int), (l : Int)]) (f : Nat → Nat) :
    wval g K V B C ws i f = if wval g K V B C ws j f < 0 ∨ wval g K V B C ws l f < 0 then -1 else wval g K V B C ws j f + wval g K V B C ws l f := by
  rw [wval, if_neg (by omega), if_neg (by omega), if_neg (by omega), dif_pos (by rw [kidAt0 hc, kidAt1 hc]; exact ⟨hj, hl⟩), kidAt0 hc, kidAt1 hc]
theorem l1Max_w (x y : Int) : F_spec_l1Max x y = some (max x y) := by
  unfold F_spec_l1Max
  split <;> (congr 1; omega)
theorem kid_sub {b1 b2 : List Int} {v : Int} {f f' : Nat → Nat} (hf : ∀ u ∈ b1 ++ v :: b2, f u.toNat = f' u.toNat) : ∀ u ∈ b1 ++ b2, f u.toNat = f' u.toNat := fun u hu => hf u (by simp at hu ⊢; rcases hu with h | h; exact .inl h; exact .inr (.inr h))
theorem upd_same {b1 b2 : List Int} {v : Int} {f f' : Nat → Nat} (hf : ∀ u ∈ b1 ++ b2, f u.toNat = f' u.toNat) (c : Nat) : ∀ u ∈ b1 ++ v :: b2, upd1 f v.toNat c u.toNat = upd1 f' v.toNat c u.toNat := fun u hu => by
  unfold upd1
  split
  · rfl
  · rename_i hne
    refine hf u ?_
    simp only [List.mem_append, List.mem_cons] at hu ⊢
    rcases hu with h | h | h
    · exact .inl h
    · subst h; exact absurd rfl hne
    · exact .inr h
theorem wval_congr (h : NiceIs g K V B C) : ∀ (i : Nat), i < K.length → ∀ {f f' : Nat → Nat}, (∀ v ∈ B.getD i [], f v.toNat = f' v.toNat) → wval g K V B C ws i f = wval g K V B C ws i f' := by
  intro i
  induction i using Nat.strongRecOn with
  | _ i ih =>
    intro hi f f' hf
    cases h.node hi with
    | leaf hk hb hc => rw [wval_leaf hk, wval_leaf hk]
    | add hk j hj hc hv b1 b2 hb hbk =>
      have e : f (V.getD i 0).toNat = f' (V.getD i 0).toNat := hf _ (by rw [hb]; simp)
      have hn := nearC_congr (g := g) hf (V.getD i 0) 1
      rw [wval_add hk hj hc, wval_add hk hj hc, ih j hj (by omega) (f' := f') (by rw [hbk]; rw [hb] at hf; exact kid_sub hf), e]
      by_cases c : f' (V.getD i 0).toNat = 1 ∧ nearC g (B.getD i []) f (V.getD i 0) 1
      · rw [if_pos c, if_pos ⟨c.1, hn.1 c.2⟩]
      · rw [if_neg c, if_neg (fun h1 => c ⟨h1.1, hn.2 h1.2⟩)]
    | drop hk j hj hc hv b1 b2 hbk hb =>
      have e : ∀ c, wval g K V B C ws j (upd1 f (V.getD i 0).toNat c) = wval g K V B C ws j (upd1 f' (V.getD i 0).toNat c) := fun c => ih j hj (by omega) (by rw [hbk]; rw [hb] at hf; exact upd_same hf c)
      rw [wval_drop hk hj hc, wval_drop hk hj hc, e 0, e 1]
    | meet hk j l hj hl hc hbk hbl =>
      rw [wval_meet hk hj hl hc, wval_meet hk hj hl hc, ih j hj (by omega) (f' := f') (fun v hv => hf v (by rw [← hbk]; exact hv)), ih l hl (by omega) (f' := f') (fun v hv => hf v (by rw [← hbl]; exact hv))]
def WOk (n : Nat) (ws : List Int) : Prop := ws.length = n ∧ ∀ w ∈ ws, 0 ≤ w ∧ w ≤ 1000
theorem WOk.get (h : WOk g.length ws) {v : Int} (h0 : 0 ≤ v) (h1 : v < g.length) : 0 ≤ ws.getD v.toNat 0 ∧ ws.getD v.toNat 0 ≤ 1000 := by
  have hl := h.1
  rw [List.getD_eq_getElem?_getD, List.getElem?_eq_getElem (by omega)]
  exact h.2 _ (List.getElem_mem _)
theorem wval_le (h : NiceIs g K V B C) (hw : WOk g.length ws) : ∀ (i : Nat), i < K.length → ∀ (f : Nat → Nat), -1 ≤ wval g K V B C ws i f ∧ wval g K V B C ws i f ≤ ((1000 * dn K C i : Nat) : Int) := by
  intro i
  induction i using Nat.strongRecOn with
  | _ i ih =>
    intro hi f
    cases h.node hi with
    | leaf hk hb hc => rw [wval_leaf hk]; omega
    | add hk j hj hc hv b1 b2 hb hbk =>
      have h1 := ih j hj (by omega) f
      rw [wval_add hk hj hc, dn_one hj hc, if_neg (show ¬ K.getD i 0 = 3 by omega), Nat.zero_add]
      split
      · omega
      · exact h1
    | drop hk j hj hc hv b1 b2 hbk hb =>
      have h1 := ih j hj (by omega) (upd1 f (V.getD i 0).toNat 1)
      have h0 := ih j hj (by omega) (upd1 f (V.getD i 0).toNat 0)
      have hg := hw.get hv.1 hv.2
      rw [wval_drop hk hj hc, dn_one hj hc, if_pos hk]
      split <;> omega
    | meet hk j l hj hl hc hbk hbl =>
      have h1 := ih j hj (by omega) f
      have h2 := ih l hl (by omega) f
      rw [wval_meet hk hj hl hc, dn_two hj hl hc, if_neg (show ¬ K.getD i 0 = 3 by omega)]
      split <;> omega
theorem wval_in (h : NiceIs g K V B C) (hw : WOk g.length ws) (hi : i < K.length) (f : Nat → Nat) : -1 ≤ wval g K V B C ws i f ∧ wval g K V B C ws i f ≤ 16000 := by
  have h1 := wval_le (ws := ws) h hw i hi f
  have h2 := h.dn_le hi
  omega
open Classical in
theorem l29Weigh_row (h : NiceIs g K V B C) (hw : WOk g.length ws) (hl : ∀ x ∈ g, x.length ≤ 1048576) (hi : i < K.length) {s : Nat} (hs : s < 2 ^ (B.getD i []).length) :
    F_spec_l29Weigh_l2 g K B C ws (i : Int) (B.getD i []) (V.getD i 0) (rows 2 B (wval g K V B C ws) i) (rowTo 2 (B.getD i []) (wval g K V B C ws i) s) (s : Int)
      = some (.inl (rows 2 B (wval g K V B C ws) i, rowTo 2 (B.getD i []) (wval g K V B C ws i) (s + 1), ((s + 1 : Nat) : Int))) := by
  have hm : K.length ≤ 200 := h.2.1.2
  have hV : V.length = K.length := h.2.2.1
  have hB : B.length = K.length := h.2.2.2.1
  have hC : C.length = K.length := h.2.2.2.2.1
  have hb8 : ∀ {j}, j < K.length → (B.getD j []).length ≤ 8 := fun hj => (h.bag hj).1
  have hs2 : s ≤ 262144 := by have := pow_in (show 2 ≤ 4 by decide) (show (B.getD i []).length ≤ 9 by have := hb8 hi; omega); omega
  obtain ⟨hd1, hd2⟩ := dec_spec (h.nodup hi) hs
  obtain ⟨f, ef⟩ : ∃ f, f = dec 2 (B.getD i []) s := ⟨_, rfl⟩
  rw [← ef] at hd1 hd2
  have hci : ∀ {j : Nat} {x y : Nat → Nat}, j < K.length → (∀ v ∈ B.getD j [], x v.toNat = y v.toNat) → wval g K V B C ws j x = wval g K V B C ws j y := fun hj hx => wval_congr h _ hj hx
  have fin : ∀ {x : Int}, x = wval g K V B C ws i f → (rowTo 2 (B.getD i []) (wval g K V B C ws i) s).set s x = rowTo 2 (B.getD i []) (wval g K V B C ws i) (s + 1) := fun hx => rowTo_set hs (by rw [← ef, hx])
  unfold F_spec_l29Weigh_l2
  rw [if_pos (by rw [rowTo_len]; omega), getD_idx hi]
  have rlen : s < (rowTo 2 (B.getD i []) (wval g K V B C ws i) s).length := by rw [rowTo_len]; exact hs
  have hget : ∀ {β : Type} (y : Int) (q : Int → Option β), idx ((rowTo 2 (B.getD i []) (wval g K V B C ws i) s).set s y) (s : Int) q = q y := fun y q => idx_of (by omega) (by rw [Int.toNat_natCast, List.getElem?_set_self rlen])
  have e1 : (s : Int) + 1 = ((s + 1 : Nat) : Int) := by omega
  cases h.node hi with
  | leaf hk hb hc =>
    rw [if_neg (by omega), if_neg (by omega), if_neg (by omega), ck_of (inI (by omega) (by omega)), rowTo_skip (s := s) (by rw [← ef, wval_leaf hk]), e1]
  | add hk j hj hc hv b1 b2 hb hbk =>
    have hnd := h.nodup hi
    rw [hb] at hnd
    have hb1 : ∀ u ∈ b1, u ≠ V.getD i 0 := fun u hu e => (List.pairwise_append.1 hnd).2.2 u hu (V.getD i 0) (by simp) (by rw [e])
    have hl1 : b1.length ≤ 8 := by have := hb8 hi; rw [hb, List.length_append] at this; omega
    have hat : F_spec_l29At (B.getD i []) (V.getD i 0) = some ((b1.length : Nat) : Int) := by rw [hb]; exact l29At_eq hb1 hl1
    have hdg : F_spec_l29Digit (s : Int) 2 ((b1.length : Nat) : Int) = some ((f (V.getD i 0).toNat : Nat) : Int) := by
      have := l29Digit_eq (k := 2) (s := s) (a := b1.length) (by decide) (by decide) hl1
      rw [show ((2 : Nat) : Int) = 2 from rfl] at this
      rw [this, ← hd2, hb, cod_digit (by rw [← hb]; exact hd1)]
    have hout : F_spec_l29Out (s : Int) 2 ((b1.length : Nat) : Int) = some ((cod 2 (B.getD j []) f : Nat) : Int) := by
      have := l29Out_eq (k := 2) (s := s) (a := b1.length) (by decide) (by decide) hl1 hs2
      rw [show ((2 : Nat) : Int) = 2 from rfl] at this
      rw [this, ← hd2, hb, cod_out (by rw [← hb]; exact hd1), hbk]
    have hnear : F_spec_l29Near g (B.getD i []) (s : Int) 2 (V.getD i 0) 1 = some (decide (nearC g (B.getD i []) f (V.getD i 0) 1)) := by
      rw [← hd2]; exact l29Near_eq (k := 2) hl (by decide) (by decide) (hb8 hi) hd1 hv.1 hv.2 1
    have hfk : ∀ x ∈ B.getD j [], f x.toNat < 2 := fun x hx => hd1 x (by rw [hb]; rw [hbk] at hx; simp at hx ⊢; rcases hx with h | h; exact .inl h; exact .inr (.inr h))
    have hrow : ∀ {β : Type} (q : Int → Option β), idx (rowOf 2 (B.getD j []) (wval g K V B C ws j)) ((cod 2 (B.getD j []) f : Nat) : Int) q = q (wval g K V B C ws j f) := fun q => rowOf_idx (h.nodup (by omega)) (fun x y hx => hci (by omega) hx) hfk q
    have hkid : ∀ {β : Type} (q : List Int → Option β), idx C (i : Int) q = q [(j : Int)] := fun q => by rw [getL_idx (by omega), hc]
    have h0 : ∀ {β : Type} (q : Int → Option β), idx [(j : Int)] 0 q = q (j : Int) := fun q => rfl
    have hval := wval_add (g := g) (V := V) (B := B) (ws := ws) hk hj hc f
    rw [if_pos hk, cal_of hat, hkid, h0, rows_idx hj, cal_of hout, hrow, idx_nat rlen, cal_of hdg, Int.toNat_natCast]
    by_cases c1 : f (V.getD i 0).toNat = 1
    · rw [if_pos (by omega), cal_of hnear]
      by_cases cn : nearC g (B.getD i []) f (V.getD i 0) 1
      · rw [if_pos (by rw [decide_eq_true cn]), hget, ck_of (inI (by omega) (by omega)), List.set_set, fin (by rw [hval, if_pos ⟨c1, cn⟩]), e1]
      · rw [if_neg (by rw [decide_eq_false cn]; simp), ck_of (inI (by omega) (by omega)), fin (by rw [hval, if_neg (fun h => cn h.2)]), e1]
    · rw [if_neg (by omega), ck_of (inI (by omega) (by omega)), fin (by rw [hval, if_neg (fun h => c1 h.1)]), e1]
  | drop hk j hj hc hv b1 b2 hbk hb =>
    have hnd := h.nodup (i := j) (by omega)
    have hbj8 := hb8 (j := j) (by omega)
    rw [hbk] at hnd hbj8
    have hb1 : ∀ u ∈ b1, u ≠ V.getD i 0 := fun u hu e => (List.pairwise_append.1 hnd).2.2 u hu (V.getD i 0) (by simp) (by rw [e])
    have hl1 : b1.length ≤ 8 := by rw [List.length_append] at hbj8; omega
    have hat : F_spec_l29At (B.getD j []) (V.getD i 0) = some ((b1.length : Nat) : Int) := by rw [hbk]; exact l29At_eq hb1 hl1
    have hne := nodup_split hnd
    have hkid : ∀ {β : Type} (q : List Int → Option β), idx C (i : Int) q = q [(j : Int)] := fun q => by rw [getL_idx (by omega), hc]
    have h0 : ∀ {β : Type} (q : Int → Option β), idx [(j : Int)] 0 q = q (j : Int) := fun q => rfl
    have hval := wval_drop (g := g) (V := V) (B := B) (ws := ws) hk hj hc f
    have hin : ∀ c : Nat, c < 2 → F_spec_l29In (s : Int) 2 ((b1.length : Nat) : Int) (c : Int) = some ((cod 2 (B.getD j []) (upd1 f (V.getD i 0).toNat c) : Nat) : Int) := fun c hc2 => by
      have := l29In_eq (k := 2) (s := s) (a := b1.length) (c := c) (by decide) (by decide) hl1 (by omega) hs2
      rw [show ((2 : Nat) : Int) = 2 from rfl] at this
      rw [this, ← hd2, hb, cod_in (by decide) (by rw [← hb]; exact hd1) hne, hbk]
    have hrow : ∀ (c : Nat), c < 2 → ∀ {β : Type} (q : Int → Option β), idx (rowOf 2 (B.getD j []) (wval g K V B C ws j)) ((cod 2 (B.getD j []) (upd1 f (V.getD i 0).toNat c) : Nat) : Int) q = q (wval g K V B C ws j (upd1 f (V.getD i 0).toNat c)) := fun c hc2 {β} q =>
      rowOf_idx (h.nodup (by omega)) (fun x y hx => hci (by omega) hx) (by rw [hbk]; rw [hb] at hd1; exact valid_more hd1 hc2) q
    have hwv : ∀ {β : Type} (q : Int → Option β), idx ws (V.getD i 0) q = q (ws.getD (V.getD i 0).toNat 0) := fun q => by
      have := hw.1
      rw [show idx ws (V.getD i 0) q = idx ws (((V.getD i 0).toNat : Nat) : Int) q by rw [show (((V.getD i 0).toNat : Nat) : Int) = V.getD i 0 by omega], getD_idx (by omega)]
    have w0 := wval_in (ws := ws) h hw (i := j) (by omega) (upd1 f (V.getD i 0).toNat 0)
    have w1 := wval_in (ws := ws) h hw (i := j) (by omega) (upd1 f (V.getD i 0).toNat 1)
    have wg := hw.get hv.1 hv.2
    have i0 : F_spec_l29In (s : Int) 2 ((b1.length : Nat) : Int) 0 = _ := hin 0 (by decide)
    have i1 : F_spec_l29In (s : Int) 2 ((b1.length : Nat) : Int) 1 = _ := hin 1 (by decide)
    rw [if_neg (by omega), if_pos hk, hkid, h0, getL_idx (by omega), cal_of hat, hkid, h0, rows_idx hj, cal_of i0, hrow 0 (by decide), idx_nat rlen, hkid, h0, rows_idx hj, cal_of i1, hrow 1 (by decide), Int.toNat_natCast]
    by_cases c : 0 ≤ wval g K V B C ws j (upd1 f (V.getD i 0).toNat 1)
    · rw [if_pos c, hget, hwv, ck_of (inI (by omega) (by omega)), cal_of (l1Max_w _ _), hget, ck_of (inI (by omega) (by omega)), List.set_set, fin (by rw [hval, if_pos c]), e1]
    · rw [if_neg c, ck_of (inI (by omega) (by omega)), fin (by rw [hval, if_neg c]), e1]
  | meet hk j l hj hl' hc hbk hbl =>
    have hkid : ∀ {β : Type} (q : List Int → Option β), idx C (i : Int) q = q [(j : Int), (l : Int)] := fun q => by rw [getL_idx (by omega), hc]
    have h0 : ∀ {β : Type} (q : Int → Option β), idx [(j : Int), (l : Int)] 0 q = q (j : Int) := fun q => rfl
    have h1 : ∀ {β : Type} (q : Int → Option β), idx [(j : Int), (l : Int)] 1 q = q (l : Int) := fun q => rfl
    have hrow : ∀ {β : Type} (q : Int → Option β), idx (rowOf 2 (B.getD j []) (wval g K V B C ws j)) (s : Int) q = q (wval g K V B C ws j f) := fun q => by
      rw [← hd2, hbk]; exact rowOf_idx (h.nodup hi) (fun x y hx => hci (by omega) (by rw [hbk]; exact hx)) hd1 q
    have hrow2 : ∀ {β : Type} (q : Int → Option β), idx (rowOf 2 (B.getD l []) (wval g K V B C ws l)) (s : Int) q = q (wval g K V B C ws l f) := fun q => by
      rw [← hd2, hbl]; exact rowOf_idx (h.nodup hi) (fun x y hx => hci (by omega) (by rw [hbl]; exact hx)) hd1 q
    have hval := wval_meet (g := g) (V := V) (B := B) (ws := ws) hk hj hl' hc f
    have w0 := wval_in (ws := ws) h hw (i := j) (by omega) f
    have w1 := wval_in (ws := ws) h hw (i := l) (by omega) f
    rw [if_neg (by omega), if_neg (by omega), if_pos hk, hkid, h0, rows_idx hj, hrow, hkid, h1, rows_idx hl', hrow2, ck_of (inI (by omega) (by omega)), idx_nat rlen, Int.toNat_natCast]
    by_cases c : wval g K V B C ws j f < 0
    · rw [if_pos c, hget, ck_of (inI (by omega) (by omega)), List.set_set, fin (by rw [hval, if_pos (.inl c)]), e1]
    · rw [if_neg c]
      by_cases c2 : wval g K V B C ws l f < 0
      · rw [if_pos c2, hget, ck_of (inI (by omega) (by omega)), List.set_set, fin (by rw [hval, if_pos (.inr c2)]), e1]
      · rw [if_neg c2, ck_of (inI (by omega) (by omega)), fin (by rw [hval, if_neg (by rintro (h | h); exact c h; exact c2 h)]), e1]
theorem l29Weigh_eq (h : NiceIs g K V B C) (hw : WOk g.length ws) (hl : ∀ x ∈ g, x.length ≤ 1048576) : F_spec_l29Weigh g K V B C ws = some (wval g K V B C ws (K.length - 1) fun _ => 0) := by
  have hm := h.2.1
  have hV : V.length = K.length := h.2.2.1
  have hB : B.length = K.length := h.2.2.2.1
  unfold F_spec_l29Weigh
  have key := lp_upto (step := fun s => F_spec_l29Weigh_l1 g K V B C ws s.1 s.2) (fun i => (rows 2 B (wval g K V B C ws) i, (i : Int))) K.length (o := Sum.inl (rows 2 B (wval g K V B C ws) K.length)) (s := (([] : List (List Int)), (0 : Int))) rfl (fun i hi => by
    simp only [F_spec_l29Weigh_l1]
    have hb := (h.bag hi).1
    have hp := pow_in (show 2 ≤ 4 by decide) (show (B.getD i []).length ≤ 9 by omega)
    have hpw : F_spec_l29Power 2 ((B.getD i []).length : Int) = some ((2 ^ (B.getD i []).length : Nat) : Int) := l29Power_eq (k := 2) (by decide) (by omega)
    rw [if_pos (by omega), getL_idx (by omega), getD_idx (by omega), cal_of hpw, mkS_of (Int.natCast_nonneg _) (Int.le_trans (Int.ofNat_le.2 hp) (by decide)), Int.toNat_natCast, ← rowTo_zero 2 (B.getD i []) (wval g K V B C ws i)]
    have k2 := lp_upto (step := fun s => F_spec_l29Weigh_l2 g K B C ws (i : Int) (B.getD i []) (V.getD i 0) s.1 s.2.1 s.2.2) (fun s => (rows 2 B (wval g K V B C ws) i, rowTo 2 (B.getD i []) (wval g K V B C ws i) s, (s : Int))) (2 ^ (B.getD i []).length)
      (o := Sum.inl (rows 2 B (wval g K V B C ws) i, rowOf 2 (B.getD i []) (wval g K V B C ws i))) (s := (rows 2 B (wval g K V B C ws) i, rowTo 2 (B.getD i []) (wval g K V B C ws i) 0, (0 : Int))) rfl (fun s hs => l29Weigh_row h hw hl hi hs) (by
        simp only [F_spec_l29Weigh_l2]
        rw [if_neg (by rw [rowTo_len]; omega), rowTo_all])
    rw [k2, bnd_inl_eq]
    unfold F_spec_l29Weigh_k3
    rw [app1_s (by rw [rows_len]; omega), ck_of (inI (by omega) (by omega)), rows_succ]; rfl) (by
    simp only [F_spec_l29Weigh_l1]
    rw [if_neg (by omega)])
  rw [key, bnd_inl_eq]
  unfold F_spec_l29Weigh_k4
  rw [rows_len, ck_of (inI (by omega) (by omega)), show (K.length : Int) - 1 = ((K.length - 1 : Nat) : Int) by omega, rows_idx (by omega)]
  have e : ((0 : Nat) : Int) = ((cod 2 (B.getD (K.length - 1) []) (fun _ => 0) : Nat) : Int) := by rw [h.last]; rfl
  show idx _ ((0 : Nat) : Int) _ = _
  rw [e, rowOf_idx (h.nodup (by omega)) (fun x y hx => wval_congr h _ (by omega) hx) (fun x hx => by rw [h.last] at hx; cases hx)]
end
end Go.Proofs.Ytnebbhginakaiaa

/- What the run finds, weights put together by the greatest. -/
namespace Go.Proofs.Ytnebbhginakaiaa
section
variable {g : List (List Int)} {K V : List Int} {B C : List (List Int)} {ws : List Int}
def ent (x : Int) : Option Int := if x < 0 then none else some x
structure TW (g : List (List Int)) (K V : List Int) (B C : List (List Int)) (ws : List Int) (j : Nat) (T : Tf (BitVec 32)) : Prop where
  fin : finT T
  supp : ∀ a n, T a = some n → ∃ f, valid 2 (B.getD j []) f ∧ a = keyU (B.getD j []) f
  val : ∀ f, valid 2 (B.getD j []) f → T (keyU (B.getD j []) f) = ent (wval g K V B C ws j f)
noncomputable abbrev wRu (g : List (List Int)) (ws : List Int) : Ru (BitVec 32) := stRu (bvs (nb g)) (fun v => F_impl_HeaviestBy_1 v ws) (fun x y => wr (x + y)) max
theorem picks_w : Picks (wRu g ws).pick := picks_max
theorem w_drop (hg : GOk g) (hw : WOk g.length ws) {b1 b2 : List Int} {v : Int} {f : Nat → Nat} {mb : BitVec 32} {n : Int} (hr : Rises (b1 ++ v :: b2) g.length) (hn : InI n) :
    (wRu g ws).drop (keyU (b1 ++ v :: b2) f) v mb n = some (putT noT (keyU (b1 ++ b2) f) (if f v.toNat = 1 then wr (n + ws.getD v.toNat 0) else n)) := by
  have h16 := hg.n16
  have hv := hr.mem (x := v) (by simp)
  have hnd := nodup_split (rises_nodup h16 hr)
  have e0 : ((v.toNat : Nat) : Int) = v := by omega
  have hl := hw.1
  show stDrop (fun v => F_impl_HeaviestBy_1 v ws) (keyU (b1 ++ v :: b2) f) v n = _
  unfold stDrop
  rw [show F_impl_vset_has (keyU (b1 ++ v :: b2) f) v = F_impl_vset_has (keyU (b1 ++ v :: b2) f) ((v.toNat : Nat) : Int) by rw [e0], keyU, cal_of (has_eq (mks_32 h16 hr f) (by omega)), mks_has hnd]
  have e1 : (if decide (f v.toNat = 1) = true then cal (F_impl_HeaviestBy_1 v ws) (fun x => some (wr (n + x))) else some n) = some (if f v.toNat = 1 then wr (n + ws.getD v.toNat 0) else n) := by
    by_cases c : f v.toNat = 1
    · rw [if_pos (decide_eq_true c), if_pos c]
      unfold F_impl_HeaviestBy_1
      rw [show idx ws v (fun x1 => some x1) = idx ws ((v.toNat : Nat) : Int) (fun x1 => some x1) by rw [e0], getD_idx (by omega)]; rfl
    · rw [if_neg (by simp [c]), if_neg c]
  rw [cal_of e1, show F_impl_one v = F_impl_one ((v.toNat : Nat) : Int) by rw [e0], cal_of (one_eq (by omega)), bv_andn (mks_32 h16 hr f), mks_less hnd]; rfl
theorem tw_in (h : NiceIs g K V B C) (hw : WOk g.length ws) {j : Nat} (hj : j < K.length) {T : Tf (BitVec 32)} (hT : TW g K V B C ws j T) {a : BitVec 32} {n : Int} (ha : T a = some n) : 0 ≤ n ∧ n ≤ 16000 := by
  obtain ⟨f, hf, rfl⟩ := hT.supp a n ha
  rw [hT.val f hf] at ha
  have := wval_in (ws := ws) h hw hj f
  unfold ent at ha
  split at ha
  · cases ha
  · obtain rfl := Option.some.inj ha; omega
theorem nodeW_add (h : NiceIs g K V B C) (hw : WOk g.length ws) {i : Nat} (hi : i < K.length) (hk : K.getD i 0 = 2) {j : Nat} (hj : j < i) (hc : C.getD i [] = [(j : Int)]) {b1 b2 : List Int} (hb : B.getD i [] = b1 ++ V.getD i 0 :: b2) (hbk : B.getD j [] = b1 ++ b2)
    {T : Tf (BitVec 32)} (hT : TW g K V B C ws j T) {mb : BitVec 32} (hmb : F_impl_maskOf (B.getD j []) = some mb) : ∃ T', gatF (wRu g ws) T (cAdd (wRu g ws) (V.getD i 0) mb) = some T' ∧ TW g K V B C ws i T' := by
  have hL := stab_lin h.1
  have hr := (h.bag hi).2
  have hrk := (h.bag (i := j) (by omega)).2
  have hnd := nodup_split (by rw [← hb]; exact h.nodup hi)
  have hv := hr.mem (x := V.getD i 0) (by rw [hb]; simp)
  rw [hb] at hr; rw [hbk] at hrk hmb
  have hadd : ∀ {f : Nat → Nat} (n : Int), valid 2 (b1 ++ b2) f → cAdd (wRu g ws) (V.getD i 0) mb (keyU (b1 ++ b2) f, n) = some ((mayC g 2 true (b1 ++ V.getD i 0 :: b2) (V.getD i 0) f).map fun c => (keyU (b1 ++ V.getD i 0 :: b2) (upd1 f (V.getD i 0).toNat c), n)) := fun {f} n hf => by
    unfold cAdd
    rw [show (wRu g ws).add (keyU (b1 ++ b2) f) (V.getD i 0) mb = _ from hL.add hr hrk hmb hf, Option.map_some, List.map_map]; rfl
  have hsupp : ∀ a n, T a = some n → ∃ f, valid 2 (b1 ++ b2) f ∧ a = keyU (b1 ++ b2) f := fun a n ha => by have := hT.supp a n ha; rwa [hbk] at this
  have hG : ∀ a n, T a = some n → cAdd (wRu g ws) (V.getD i 0) mb (a, n) = some ((cAdd (wRu g ws) (V.getD i 0) mb (a, n)).getD []) := fun a n ha => by
    obtain ⟨f, hf, rfl⟩ := hsupp a n ha
    rw [hadd n hf]; rfl
  have hcs : ∀ {f : Nat → Nat} {c : Nat}, c ∈ mayC g 2 true (b1 ++ V.getD i 0 :: b2) (V.getD i 0) f → c < 2 := fun hc => by
    unfold mayC at hc; rw [List.mem_filter] at hc; simpa using hc.1
  obtain ⟨T', hT', hfin, hs, hat⟩ := gatF_at picks_w hT.fin (fun p => (cAdd (wRu g ws) (V.getD i 0) mb p).getD []) hG
  refine ⟨T', hT', hfin, fun a n ha => ?_, fun f hf => ?_⟩
  · obtain ⟨s, m, m', hsm, hm⟩ := hs a (by rw [ha]; simp)
    obtain ⟨f, hf, rfl⟩ := hsupp s m hsm
    rw [hadd m hf] at hm
    obtain ⟨c, hc', e⟩ := List.mem_map.1 hm
    have e1 := congrArg Prod.fst e
    exact ⟨upd1 f (V.getD i 0).toNat c, by rw [hb]; exact valid_more hf (hcs hc'), by rw [hb]; exact e1.symm⟩
  · rw [hb] at hf ⊢
    have hfk : valid 2 (b1 ++ b2) f := valid_less hf
    have hiff : ∀ {f' : Nat → Nat} {c : Nat}, valid 2 (b1 ++ b2) f' → c ∈ mayC g 2 true (b1 ++ V.getD i 0 :: b2) (V.getD i 0) f' → (keyU (b1 ++ V.getD i 0 :: b2) (upd1 f' (V.getD i 0).toNat c) = keyU (b1 ++ V.getD i 0 :: b2) f ↔ (∀ u ∈ b1 ++ b2, f' u.toNat = f u.toNat) ∧ c = f (V.getD i 0).toNat) := fun {f' c} hf' hc' => by
      rw [hL.same hr (valid_more hf' (hcs hc')) hf]
      constructor
      · intro hx
        refine ⟨fun u hu => ?_, ?_⟩
        · have := hx u (by simp at hu ⊢; rcases hu with h | h; exact .inl h; exact .inr (.inr h))
          rwa [upd_self hnd f' c u hu] at this
        · have := hx (V.getD i 0) (by simp); rwa [show upd1 f' (V.getD i 0).toNat c (V.getD i 0).toNat = c by unfold upd1; rw [if_pos rfl]] at this
      · rintro ⟨ce, hx⟩ u hu
        simp only [List.mem_append, List.mem_cons] at hu
        by_cases eu : u.toNat = (V.getD i 0).toNat
        · rw [eu, hx]; unfold upd1; rw [if_pos rfl]
        · have hu' : u ∈ b1 ++ b2 := by
            rcases hu with h | h | h
            · simp [h]
            · subst h; exact absurd rfl eu
            · simp [h]
          rw [upd_self hnd f' c u hu', ce u hu']
    rw [hat _ [keyU (b1 ++ b2) f] (by simp) (fun s n hn hx => by
      obtain ⟨f', hf', rfl⟩ := hsupp s n hn
      rw [hadd n hf', Option.getD_some, valsAt_map, List.filter_eq_nil_iff.2, List.map_nil]
      intro c hc' hd
      have := (hiff hf' hc').1 (by simpa using hd)
      exact hx (by rw [(hL.same hrk hf' hfk).2 this.1]; simp)), entOf_one]
    have hih := hT.val f (by rw [hbk]; exact hfk)
    rw [hbk] at hih
    rw [hih, wval_add hk hj hc, hb]
    have hmay := mayC_upd (g := g) (st := true) hnd (hf (V.getD i 0) (by simp))
    have hf2 := hf (V.getD i 0) (by simp)
    have hvals : ∀ n : Int, valsAt ((cAdd (wRu g ws) (V.getD i 0) mb (keyU (b1 ++ b2) f, n)).getD []) (keyU (b1 ++ V.getD i 0 :: b2) f) = if f (V.getD i 0).toNat ∈ mayC g 2 true (b1 ++ V.getD i 0 :: b2) (V.getD i 0) f then [n] else [] := fun n => by
      rw [hadd n hfk, Option.getD_some, valsAt_map]
      have e : (mayC g 2 true (b1 ++ V.getD i 0 :: b2) (V.getD i 0) f).filter (fun c => decide (keyU (b1 ++ V.getD i 0 :: b2) (upd1 f (V.getD i 0).toNat c) = keyU (b1 ++ V.getD i 0 :: b2) f)) = (mayC g 2 true (b1 ++ V.getD i 0 :: b2) (V.getD i 0) f).filter fun c => decide (c = f (V.getD i 0).toNat) :=
        List.filter_congr fun c hc' => by rw [decide_eq_decide, hiff hfk hc']; exact ⟨fun h => h.2, fun h => ⟨fun _ _ => rfl, h⟩⟩
      rw [e]
      have hn : (mayC g 2 true (b1 ++ V.getD i 0 :: b2) (V.getD i 0) f).Nodup := by unfold mayC; exact List.nodup_range.filter _
      by_cases cm : f (V.getD i 0).toNat ∈ mayC g 2 true (b1 ++ V.getD i 0 :: b2) (V.getD i 0) f
      · rw [if_pos cm]
        have : (mayC g 2 true (b1 ++ V.getD i 0 :: b2) (V.getD i 0) f).filter (fun c => decide (c = f (V.getD i 0).toNat)) = [f (V.getD i 0).toNat] := by
          refine List.perm_singleton.1 ((List.perm_ext_iff_of_nodup (hn.filter _) (by simp)).2 fun x => ?_)
          rw [List.mem_filter, List.mem_singleton, decide_eq_true_iff]
          exact ⟨fun h => h.2, fun h => ⟨h ▸ cm, h⟩⟩
        rw [this]; rfl
      · rw [if_neg cm, List.filter_eq_nil_iff.2 fun c hc' hd => cm ((of_decide_eq_true (p := c = f (V.getD i 0).toNat) hd) ▸ hc')]; rfl
    have hcase : f (V.getD i 0).toNat ∈ mayC g 2 true (b1 ++ V.getD i 0 :: b2) (V.getD i 0) f ↔ ¬ (f (V.getD i 0).toNat = 1 ∧ nearC g (b1 ++ V.getD i 0 :: b2) f (V.getD i 0) 1) := by
      rw [hmay]
      by_cases c1 : f (V.getD i 0).toNat = 1
      · rw [c1]; exact ⟨fun h h2 => h.elim (fun h => absurd h.2 (by decide)) (fun h => h h2.2), fun h => .inr fun h2 => h ⟨rfl, h2⟩⟩
      · exact ⟨fun _ h => c1 h.1, fun _ => .inl ⟨rfl, by omega⟩⟩
    by_cases cm : f (V.getD i 0).toNat ∈ mayC g 2 true (b1 ++ V.getD i 0 :: b2) (V.getD i 0) f
    · rw [if_neg (hcase.1 cm)]
      by_cases hneg : wval g K V B C ws j f < 0
      · rw [show ent (wval g K V B C ws j f) = none from if_pos hneg]; rfl
      · rw [show ent (wval g K V B C ws j f) = some (wval g K V B C ws j f) from if_neg hneg]
        simp only [List.flatMap_cons, List.flatMap_nil, List.append_nil]
        rw [hvals, if_pos cm]; rfl
    · rw [if_pos (Classical.not_not.1 fun h => cm (hcase.2 h)), show ent (-1) = none from rfl]
      by_cases hneg : wval g K V B C ws j f < 0
      · rw [show ent (wval g K V B C ws j f) = none from if_pos hneg]; rfl
      · rw [show ent (wval g K V B C ws j f) = some (wval g K V B C ws j f) from if_neg hneg]
        simp only [List.flatMap_cons, List.flatMap_nil, List.append_nil]
        rw [hvals, if_neg cm]; rfl
theorem nodeW_drop (h : NiceIs g K V B C) (hw : WOk g.length ws) {i : Nat} (hi : i < K.length) (hk : K.getD i 0 = 3) {j : Nat} (hj : j < i) (hc : C.getD i [] = [(j : Int)]) {b1 b2 : List Int} (hbk : B.getD j [] = b1 ++ V.getD i 0 :: b2) (hb : B.getD i [] = b1 ++ b2)
    {T : Tf (BitVec 32)} (hT : TW g K V B C ws j T) {mb : BitVec 32} : ∃ T', gatF (wRu g ws) T (cDrop (wRu g ws) (V.getD i 0) mb) = some T' ∧ TW g K V B C ws i T' := by
  have hL := stab_lin h.1
  have hr := (h.bag hi).2
  have hrk := (h.bag (i := j) (by omega)).2
  have hnd := nodup_split (by rw [← hbk]; exact h.nodup (i := j) (by omega))
  have hv := hrk.mem (x := V.getD i 0) (by rw [hbk]; simp)
  have wg := hw.get hv.1 hv.2
  rw [hb] at hr; rw [hbk] at hrk
  have hin : ∀ {a n}, T a = some n → 0 ≤ n ∧ n ≤ 16000 := fun ha => tw_in h hw (by omega) hT ha
  have hdrop : ∀ {f : Nat → Nat} {n : Int}, 0 ≤ n ∧ n ≤ 16000 → cDrop (wRu g ws) (V.getD i 0) mb (keyU (b1 ++ V.getD i 0 :: b2) f, n) = some [(keyU (b1 ++ b2) f, if f (V.getD i 0).toNat = 1 then n + ws.getD (V.getD i 0).toNat 0 else n)] := fun {f n} hn => by
    unfold cDrop
    rw [w_drop h.1 hw hrk (inI (by omega) (by omega)), Option.map_some, lst_put, wr_of (inI (by omega) (by omega))]
  have hsupp : ∀ a n, T a = some n → ∃ f, valid 2 (b1 ++ V.getD i 0 :: b2) f ∧ a = keyU (b1 ++ V.getD i 0 :: b2) f := fun a n ha => by have := hT.supp a n ha; rwa [hbk] at this
  have hG : ∀ a n, T a = some n → cDrop (wRu g ws) (V.getD i 0) mb (a, n) = some ((cDrop (wRu g ws) (V.getD i 0) mb (a, n)).getD []) := fun a n ha => by
    have hn := hin ha
    obtain ⟨f, hf, rfl⟩ := hsupp a n ha
    rw [hdrop hn]; rfl
  obtain ⟨T', hT', hfin, hs, hat⟩ := gatF_at picks_w hT.fin (fun p => (cDrop (wRu g ws) (V.getD i 0) mb p).getD []) hG
  refine ⟨T', hT', hfin, fun a n ha => ?_, fun f hf => ?_⟩
  · obtain ⟨s, m, m', hsm, hm⟩ := hs a (by rw [ha]; simp)
    have hn := hin hsm
    obtain ⟨f, hf, rfl⟩ := hsupp s m hsm
    rw [hdrop hn, Option.getD_some, List.mem_singleton] at hm
    exact ⟨f, by rw [hb]; exact valid_less hf, by rw [hb]; exact congrArg Prod.fst hm⟩
  · rw [hb] at hf ⊢
    have hself : ∀ c, upd1 f (V.getD i 0).toNat c (V.getD i 0).toNat = c := fun c => by unfold upd1; rw [if_pos rfl]
    have hvm : ∀ c, c < 2 → valid 2 (b1 ++ V.getD i 0 :: b2) (upd1 f (V.getD i 0).toNat c) := fun c hc2 => valid_more hf hc2
    have hne01 : keyU (b1 ++ V.getD i 0 :: b2) (upd1 f (V.getD i 0).toNat 0) ≠ keyU (b1 ++ V.getD i 0 :: b2) (upd1 f (V.getD i 0).toNat 1) := fun e => by
      have := (hL.same hrk (hvm 0 (by decide)) (hvm 1 (by decide))).1 e (V.getD i 0) (by simp)
      rw [hself, hself] at this; cases this
    have hkeep : ∀ c, keyU (b1 ++ b2) (upd1 f (V.getD i 0).toNat c) = keyU (b1 ++ b2) f := fun c => by unfold keyU; rw [mks_congr (upd_self hnd f c)]
    rw [hat _ [keyU (b1 ++ V.getD i 0 :: b2) (upd1 f (V.getD i 0).toNat 0), keyU (b1 ++ V.getD i 0 :: b2) (upd1 f (V.getD i 0).toNat 1)] (List.nodup_cons.2 ⟨fun h => hne01 (List.mem_singleton.1 h), by simp⟩) (fun s n hn hx => by
      have hn2 := hin hn
      obtain ⟨f', hf', rfl⟩ := hsupp s n hn
      rw [hdrop hn2, Option.getD_some, valsAt_one, if_neg]
      intro e
      have hce := (hL.same hr (valid_less hf') hf).1 e
      have hf2 := hf' (V.getD i 0) (by simp)
      have : keyU (b1 ++ V.getD i 0 :: b2) f' = keyU (b1 ++ V.getD i 0 :: b2) (upd1 f (V.getD i 0).toNat (f' (V.getD i 0).toNat)) := by
        refine (hL.same hrk hf' (hvm _ hf2)).2 fun u hu => ?_
        by_cases eu : u.toNat = (V.getD i 0).toNat
        · rw [eu, hself]
        · have hu' : u ∈ b1 ++ b2 := by
            simp only [List.mem_append, List.mem_cons] at hu ⊢
            rcases hu with h | h | h
            · exact .inl h
            · subst h; exact absurd rfl eu
            · exact .inr h
          rw [upd_self hnd f _ u hu', hce u hu']
      rw [this] at hx
      rcases (show f' (V.getD i 0).toNat = 0 ∨ f' (V.getD i 0).toNat = 1 by omega) with e2 | e2
      · rw [e2] at hx; simp at hx
      · rw [e2] at hx; simp at hx), entOf_cons, entOf_one]
    have h0 := hT.val (upd1 f (V.getD i 0).toNat 0) (by rw [hbk]; exact hvm 0 (by decide))
    have h1 := hT.val (upd1 f (V.getD i 0).toNat 1) (by rw [hbk]; exact hvm 1 (by decide))
    have w0 := wval_in (ws := ws) h hw (i := j) (by omega) (upd1 f (V.getD i 0).toNat 0)
    have w1 := wval_in (ws := ws) h hw (i := j) (by omega) (upd1 f (V.getD i 0).toNat 1)
    rw [hbk] at h0 h1
    rw [h0, h1, wval_drop hk hj hc]
    have v0 : ∀ n, 0 ≤ n ∧ n ≤ 16000 → valsAt ((cDrop (wRu g ws) (V.getD i 0) mb (keyU (b1 ++ V.getD i 0 :: b2) (upd1 f (V.getD i 0).toNat 0), n)).getD []) (keyU (b1 ++ b2) f) = [n] := fun n hn => by
      rw [hdrop hn, Option.getD_some, valsAt_one, hkeep, if_pos rfl, hself, if_neg (by decide)]
    have v1 : ∀ n, 0 ≤ n ∧ n ≤ 16000 → valsAt ((cDrop (wRu g ws) (V.getD i 0) mb (keyU (b1 ++ V.getD i 0 :: b2) (upd1 f (V.getD i 0).toNat 1), n)).getD []) (keyU (b1 ++ b2) f) = [n + ws.getD (V.getD i 0).toNat 0] := fun n hn => by
      rw [hdrop hn, Option.getD_some, valsAt_one, hkeep, if_pos rfl, hself, if_pos rfl]
    generalize wval g K V B C ws j (upd1 f (V.getD i 0).toNat 0) = x0 at w0 ⊢
    generalize wval g K V B C ws j (upd1 f (V.getD i 0).toNat 1) = x1 at w1 ⊢
    by_cases n0 : x0 < 0
    · rw [show ent x0 = none from if_pos n0]
      by_cases n1 : x1 < 0
      · rw [show ent x1 = none from if_pos n1, if_neg (by omega), show ent x0 = none from if_pos n0]; rfl
      · rw [show ent x1 = some x1 from if_neg n1, if_pos (by omega)]
        simp only [List.flatMap_cons, List.flatMap_nil, List.append_nil, List.nil_append]
        rw [v1 x1 (by omega), optF_one]
        unfold ent; rw [if_neg (by omega)]; congr 1; omega
    · rw [show ent x0 = some x0 from if_neg n0]
      by_cases n1 : x1 < 0
      · rw [show ent x1 = none from if_pos n1, if_neg (by omega), show ent x0 = some x0 from if_neg n0]
        simp only [List.flatMap_cons, List.flatMap_nil, List.append_nil]
        rw [v0 x0 (by omega), optF_one]
      · rw [show ent x1 = some x1 from if_neg n1, if_pos (by omega)]
        simp only [List.flatMap_cons, List.flatMap_nil, List.append_nil, List.cons_append, List.nil_append]
        rw [v0 x0 (by omega), v1 x1 (by omega)]
        show optF max [x0, x1 + _] = _
        rw [optF_two]
        unfold ent; rw [if_neg (by omega)]
theorem nodeW_meet (h : NiceIs g K V B C) (hw : WOk g.length ws) {i : Nat} (hi : i < K.length) (hk : K.getD i 0 = 4) {j l : Nat} (hj : j < i) (hl : l < i) (hc : C.getD i [] = [(j : Int), (l : Int)]) (hbk : B.getD j [] = B.getD i []) (hbl : B.getD l [] = B.getD i [])
    {T U : Tf (BitVec 32)} (hT : TW g K V B C ws j T) (hU : TW g K V B C ws l U) : ∃ T', gatF (wRu g ws) T (cMeet (wRu g ws) U) = some T' ∧ TW g K V B C ws i T' := by
  have hlU := lst_is (hU.fin.choose_spec)
  have hone : ∀ (p q : BitVec 32 × Int), cMeet1 (wRu g ws) p q = if p.1 = q.1 then [(p.1, wr (p.2 + q.2))] else [] := fun p q => by
    unfold cMeet1
    show (if decide (p.1 = q.1) = true then [(p.1, wr (p.2 + q.2))] else []) = _
    by_cases c : p.1 = q.1
    · rw [if_pos (decide_eq_true c), if_pos c]
    · rw [if_neg (by simp [c]), if_neg c]
  have hvU : ∀ (p : BitVec 32 × Int) (a : BitVec 32), valsAt ((lst U).flatMap (cMeet1 (wRu g ws) p)) a = if p.1 = a then (match U p.1 with | some m => [wr (p.2 + m)] | none => []) else [] := fun p a => by
    rw [valsAt_flatMap, flatMap_sub (fun q => decide (q.1 = p.1)) _ (fun q hq hx => by
      have : ¬ p.1 = q.1 := fun e => by simp [e] at hx
      rw [hone, if_neg this]; rfl)]
    have e : (lst U).filter (fun q => decide (q.1 = p.1)) = match U p.1 with | some m => [(p.1, m)] | none => [] := by
      have hn := (nodup_of_fst hlU.nd).filter fun q => decide (q.1 = p.1)
      cases hp : U p.1 with
      | none =>
        refine List.filter_eq_nil_iff.2 fun q hq hd => ?_
        have := (hlU.mem q.1 q.2).2 hq
        rw [of_decide_eq_true hd, hp] at this; cases this
      | some m =>
        refine List.perm_singleton.1 ((List.perm_ext_iff_of_nodup hn (by simp)).2 fun q => ?_)
        rw [List.mem_filter, List.mem_singleton, decide_eq_true_iff]
        constructor
        · rintro ⟨h1, h2⟩
          have := (hlU.mem q.1 q.2).2 h1
          rw [h2, hp] at this
          obtain ⟨q1, q2⟩ := q
          simp only at h2 this
          rw [h2, ← Option.some.inj this]
        · rintro rfl
          exact ⟨(hlU.mem p.1 m).1 hp, rfl⟩
    rw [e]
    cases U p.1 with
    | none => simp
    | some m =>
      simp only [List.flatMap_cons, List.flatMap_nil, List.append_nil]
      rw [hone, if_pos rfl, valsAt_one]
  obtain ⟨T', hT', hfin, hs, hat⟩ := gatF_at picks_w hT.fin (f := cMeet (wRu g ws) U) (fun p => (lst U).flatMap (cMeet1 (wRu g ws) p)) (fun a n _ => rfl)
  refine ⟨T', hT', hfin, fun a n ha => ?_, fun f hf => ?_⟩
  · obtain ⟨s, m, m', hsm, hm⟩ := hs a (by rw [ha]; simp)
    obtain ⟨q, hq, hp⟩ := List.mem_flatMap.1 hm
    rw [hone] at hp
    split at hp
    · rw [List.mem_singleton] at hp
      have e : a = s := congrArg Prod.fst hp
      subst e
      obtain ⟨f, hf, e⟩ := hT.supp _ _ hsm
      rw [hbk] at hf e
      exact ⟨f, hf, e⟩
    · cases hp
  · have h1 := hT.val f (by rw [hbk]; exact hf)
    have h2 := hU.val f (by rw [hbl]; exact hf)
    have w0 := wval_in (ws := ws) h hw (i := j) (by omega) f
    have w1 := wval_in (ws := ws) h hw (i := l) (by omega) f
    rw [hbk] at h1; rw [hbl] at h2
    rw [hat _ [keyU (B.getD i []) f] (by simp) (fun s n hn hx => by rw [hvU, if_neg (fun e => hx (List.mem_singleton.2 e))]), entOf_one, wval_meet hk hj hl hc, h1]
    have hv : ∀ n : Int, valsAt ((lst U).flatMap (cMeet1 (wRu g ws) (keyU (B.getD i []) f, n))) (keyU (B.getD i []) f) = match U (keyU (B.getD i []) f) with | some m => [wr (n + m)] | none => [] := fun n => by rw [hvU, if_pos rfl]
    rw [h2] at hv
    generalize wval g K V B C ws j f = x0 at w0 ⊢
    generalize wval g K V B C ws l f = x1 at w1 hv ⊢
    by_cases n0 : x0 < 0
    · rw [show ent x0 = none from if_pos n0, if_pos (.inl n0)]; rfl
    · rw [show ent x0 = some x0 from if_neg n0]
      simp only [List.flatMap_cons, List.flatMap_nil, List.append_nil]
      rw [hv]
      by_cases n1 : x1 < 0
      · rw [show ent x1 = none from if_pos n1, if_pos (.inr n1)]; rfl
      · rw [show ent x1 = some x1 from if_neg n1, if_neg (by omega)]
        simp only
        rw [optF_one, wr_of (inI (by omega) (by omega))]
        unfold ent; rw [if_neg (by omega)]
theorem runW_eq (h : NiceIs g K V B C) (hw : WOk g.length ws) : ∃ T, runF F_impl_maskOf (wRu g ws) (putT noT 0#32 0) K V B C = some T ∧ T 0#32 = ent (wval g K V B C ws (K.length - 1) fun _ => 0) := by
  have hm := h.2.1
  have hV : V.length = K.length := h.2.2.1
  have hB : B.length = K.length := h.2.2.2.1
  have hC : C.length = K.length := h.2.2.2.2.1
  have hL := stab_lin h.1
  have key0 : ∀ f, keyU [] f = 0#32 := fun f => rfl
  obtain ⟨o, ho, hlen, hAll⟩ := lp_ex (step := fun s => runL F_impl_maskOf (wRu g ws) (putT noT 0#32 0) K V B C s.1 s.2) (fun i (ts : List (Tf (BitVec 32))) => (ts, (i : Int))) K.length
    (fun i ts => ts.length = i ∧ ∀ j, j < i → ∃ T, ts[j]? = some T ∧ TW g K V B C ws j T) (fun o => o.length = K.length ∧ ∀ j, j < K.length → ∃ T, o[j]? = some T ∧ TW g K V B C ws j T) (fun i ts hi hI => by
      obtain ⟨hlen, hAll⟩ := hI
      have node : ∃ T', nodeT F_impl_maskOf (wRu g ws) (putT noT 0#32 0) B ts (i : Int) (K.getD i 0) (V.getD i 0) (C.getD i []) = some T' ∧ TW g K V B C ws i T' := by
        unfold nodeT
        have tsx : ∀ {j : Nat} {T : Tf (BitVec 32)} {β : Type} (q : Tf (BitVec 32) → Option β), ts[j]? = some T → idx ts (j : Int) q = q T := fun q h => idx_of (by omega) (by rw [Int.toNat_natCast]; exact h)
        cases h.node hi with
        | leaf hk hb hc =>
          rw [if_pos hk]
          refine ⟨_, rfl, put_fin fin_no _ _, fun a n ha => ?_, fun f hf => ?_⟩
          · unfold putT at ha; split at ha
            · rename_i e; exact ⟨fun _ => 0, by rw [hb]; exact (fun v hv => nomatch hv), by rw [hb]; exact e⟩
            · cases ha
          · rw [hb, key0, wval_leaf hk]
            unfold putT; rw [if_pos rfl]; rfl
        | add hk j hj hc hv b1 b2 hb hbk =>
          obtain ⟨T, hTj, hT⟩ := hAll j hj
          obtain ⟨mb, hmb⟩ := hL.msk (h.bag (i := j) (by omega)).2
          obtain ⟨T', h1, h2⟩ := nodeW_add h hw hi hk hj hc hb hbk hT hmb
          refine ⟨T', ?_, h2⟩
          rw [if_neg (by omega), if_pos hk, hc]
          show idx ts (j : Int) _ = _
          rw [tsx _ hTj, getL_idx (by omega), cal_of hmb, h1]
        | drop hk j hj hc hv b1 b2 hbk hb =>
          obtain ⟨T, hTj, hT⟩ := hAll j hj
          obtain ⟨mb, hmb⟩ := hL.msk (h.bag hi).2
          obtain ⟨T', h1, h2⟩ := nodeW_drop h hw hi hk hj hc hbk hb hT (mb := mb)
          refine ⟨T', ?_, h2⟩
          rw [if_neg (by omega), if_neg (by omega), if_pos hk, hc]
          show idx ts (j : Int) _ = _
          rw [tsx _ hTj, getL_idx (by omega), cal_of hmb, h1]
        | meet hk j l hj hl hc hbk hbl =>
          obtain ⟨T, hTj, hT⟩ := hAll j hj
          obtain ⟨U, hUl, hU⟩ := hAll l hl
          obtain ⟨T', h1, h2⟩ := nodeW_meet h hw hi hk hj hl hc hbk hbl hT hU
          refine ⟨T', ?_, h2⟩
          rw [if_neg (by omega), if_neg (by omega), if_neg (by omega), if_pos hk, hc]
          show idx ts (j : Int) _ = _
          rw [tsx _ hTj]
          show idx ts (l : Int) _ = _
          rw [tsx _ hUl, h1]
      obtain ⟨T', hn, hTJ⟩ := node
      refine ⟨ts ++ [T'], ?_, by rw [List.length_append, hlen]; rfl, fun j hj => ?_⟩
      · simp only [runL]
        rw [if_pos (by omega), getD_idx hi, getD_idx (by omega), getL_idx (by omega), cal_of hn, app1_s (by omega), ck_of (inI (by omega) (by omega))]; rfl
      · by_cases e : j < i
        · obtain ⟨T, h1, h2⟩ := hAll j e
          exact ⟨T, by rw [List.getElem?_append_left (by omega)]; exact h1, h2⟩
        · have e2 : j = i := by omega
          subst e2
          exact ⟨T', by rw [← hlen, List.getElem?_append_right (Nat.le_refl _)]; simp, hTJ⟩)
    (fun ts hI => ⟨ts, by simp only [runL]; rw [if_neg (by omega)], hI⟩) K.length 0 [] (by omega) ⟨rfl, fun j hj => by omega⟩
  rw [show ((0 : Nat) : Int) = 0 from rfl] at ho
  obtain ⟨T, hT, hJ⟩ := hAll (K.length - 1) (by omega)
  refine ⟨T, ?_, ?_⟩
  · unfold runF
    rw [cal_of ho, hlen, ck_of (inI (by omega) (by omega)), show (K.length : Int) - 1 = ((K.length - 1 : Nat) : Int) by omega, idx_of (by omega) (by rw [Int.toNat_natCast]; exact hT)]
  · have := hJ.val (fun _ => 0) (by rw [h.last]; exact fun v hv => nomatch hv)
    rwa [h.last] at this
end
end Go.Proofs.Ytnebbhginakaiaa

/- Laws whose arguments hold a nice tree: its size, its copies. -/
namespace Go.Proofs.Ytnebbhginakaiaa
abbrev NiceD := List Int × List Int × List (List Int) × List (List Int)
structure NiceLen (d : NiceD) : Prop where
  l0 : d.1.length ≤ 1048576
  l1 : d.2.1.length ≤ 1048576
  l2 : d.2.2.1.length ≤ 1048576
  l3 : d.2.2.2.length ≤ 1048576
  r2 : ∀ x ∈ d.2.2.1, x.length ≤ 1048576
  r3 : ∀ x ∈ d.2.2.2, x.length ≤ 1048576
theorem szNice_ex (d : NiceD) (m0 : Int) (h0 : 0 ≤ m0) (h1 : m0 ≤ 1048576) (hd : Sz.ok d) : ∃ m, F_laws_szNice d.1 d.2.1 d.2.2.1 d.2.2.2 m0 = some m ∧ (m < 0 ∨ (0 ≤ m ∧ m ≤ m0 ∧ NiceLen d ∧ True)) := by
  unfold F_laws_szNice
  rw [cal_of (szInt64S_eq d.1 m0 (by omega) (by omega) hd.1)]
  obtain ⟨m1, hm1⟩ : ∃ m1, less m0 d.1.length = m1 := ⟨_, rfl⟩
  rw [hm1]
  by_cases c1 : m1 < 0
  · rw [if_pos c1]; exact ⟨_, rfl, .inl (by decide)⟩
  rw [if_neg c1]
  have b1 : m1 ≤ m0 ∧ (d.1.length : Int) ≤ 1048576 := by unfold less at hm1; split at hm1 <;> omega
  rw [cal_of (szInt64S_eq d.2.1 m1 (by omega) (by omega) hd.2.1)]
  obtain ⟨m2, hm2⟩ : ∃ m2, less m1 d.2.1.length = m2 := ⟨_, rfl⟩
  rw [hm2]
  by_cases c2 : m2 < 0
  · rw [if_pos c2]; exact ⟨_, rfl, .inl (by decide)⟩
  rw [if_neg c2]
  have b2 : m2 ≤ m1 ∧ (d.2.1.length : Int) ≤ 1048576 := by unfold less at hm2; split at hm2 <;> omega
  obtain ⟨m3, hm3, h3⟩ := szInt64SS_eq d.2.2.1 m2 (by omega) (by omega) hd.2.2.1
  rw [cal_of hm3]
  rcases h3 with h3 | ⟨b3, e3, l3, r3⟩
  · rw [if_pos h3]; exact ⟨_, rfl, .inl (by decide)⟩
  rw [if_neg (by omega)]
  obtain ⟨m4, hm4, h4⟩ := szInt64SS_eq d.2.2.2 m3 (by omega) (by omega) hd.2.2.2
  rw [cal_of hm4]
  rcases h4 with h4 | ⟨b4, e4, l4, r4⟩
  · rw [if_pos h4]; exact ⟨_, rfl, .inl (by decide)⟩
  rw [if_neg (by omega)]
  exact ⟨_, rfl, .inr ⟨by omega, by omega, ⟨by omega, by omega, by omega, by omega, fun x hx => by have := r3 x hx; omega, fun x hx => by have := r4 x hx; omega⟩, trivial⟩⟩
theorem toNice_eq (d : NiceD) (h : NiceLen d) : F_laws_toNice d.1 d.2.1 d.2.2.1 d.2.2.2 = some (d.1, d.2.1, d.2.2.1, d.2.2.2) := by
  obtain ⟨l0, l1, l2, l3, r2, r3⟩ := h
  unfold F_laws_toNice
  rw [cal_of (toInt64S_eq d.1 (by omega)), cal_of (toInt64S_eq d.2.1 (by omega)), cal_of (toInt64SS_eq d.2.2.1 (by omega) (fun x hx => by have := r2 x hx; omega)), cal_of (toInt64SS_eq d.2.2.2 (by omega) (fun x hx => by have := r3 x hx; omega))]
theorem eqNice_self (d : NiceD) (h : NiceLen d) : F_laws_eqNice d.1 d.2.1 d.2.2.1 d.2.2.2 d.1 d.2.1 d.2.2.1 d.2.2.2 = some true := by
  obtain ⟨l0, l1, l2, l3, r2, r3⟩ := h
  unfold F_laws_eqNice
  rw [cal_of (eqInt64S_eq d.1 d.1 (by omega)), if_neg (by simp), cal_of (eqInt64S_eq d.2.1 d.2.1 (by omega)), if_neg (by simp), cal_of (eqInt64SS_eq d.2.2.1 d.2.2.1 (by omega) (fun x hx => by have := r2 x hx; omega)), if_neg (by simp), cal_of (eqInt64SS_eq d.2.2.2 d.2.2.2 (by omega) (fun x hx => by have := r3 x hx; omega)), if_neg (by simp)]
end Go.Proofs.Ytnebbhginakaiaa

/- FnExactHeaviestBy: the plain law. -/
namespace Go.Proofs.Ytnebbhginakaiaa
open Classical in
noncomputable def resHeaviest (g : List (List Int)) (K V : List Int) (B C : List (List Int)) (ws : List Int) : Int := if NiceIs g K V B C ∧ WOk g.length ws then wval g K V B C ws (K.length - 1) (fun _ => 0) else -1
theorem upd_zero (v : Nat) : upd1 (fun _ => 0) v 0 = fun _ => 0 := by funext x; unfold upd1; split <;> rfl
theorem wval_zero {g : List (List Int)} {K V : List Int} {B C : List (List Int)} {ws : List Int} (h : NiceIs g K V B C) : ∀ (i : Nat), i < K.length → 0 ≤ wval g K V B C ws i (fun _ => 0) := by
  intro i
  induction i using Nat.strongRecOn with
  | _ i ih =>
    intro hi
    cases h.node hi with
    | leaf hk hb hc => rw [wval_leaf hk]; omega
    | add hk j hj hc hv b1 b2 hb hbk =>
      rw [wval_add hk hj hc, if_neg (by rintro ⟨h1, _⟩; cases h1)]
      exact ih j hj (by omega)
    | drop hk j hj hc hv b1 b2 hbk hb =>
      have h0 := ih j hj (by omega)
      rw [wval_drop hk hj hc, upd_zero]
      split <;> omega
    | meet hk j l hj hl hc hbk hbl =>
      have h0 := ih j hj (by omega)
      have h1 := ih l hl (by omega)
      rw [wval_meet hk hj hl hc]
      split <;> omega
theorem inRange_w (x : Int) : F_impl_inRange x 0 1000 = some (decide (0 ≤ x ∧ x ≤ 1000)) := by
  unfold F_impl_inRange
  by_cases h : 0 ≤ x
  · rw [if_pos h]; congr 1; rw [decide_eq_decide]; omega
  · rw [if_neg h]; congr 1; symm; rw [decide_eq_false_iff_not]; omega
open Classical in
theorem goodWeights_eq (g : List (List Int)) (ws : List Int) (hl : ws.length ≤ 1048576) : F_impl_goodWeights g ws = some (decide (WOk g.length ws)) := by
  unfold F_impl_goodWeights
  by_cases e : ws.length = g.length
  · rw [if_pos (by omega), cal_of (hasF_int64 ws _ (fun x => !decide (0 ≤ x ∧ x ≤ 1000)) hl fun x _ => by unfold F_impl_goodWeights_1; rw [cal_of (inRange_w x)])]
    congr 1
    by_cases h : ∀ w ∈ ws, 0 ≤ w ∧ w ≤ 1000
    · rw [decide_eq_true (show WOk g.length ws from ⟨e, h⟩)]
      have : ws.any (fun x => !decide (0 ≤ x ∧ x ≤ 1000)) = false := by rw [List.any_eq_false]; intro x hx; simp [h x hx]
      rw [this]; rfl
    · rw [decide_eq_false (show ¬ WOk g.length ws from fun k => h k.2)]
      have : ws.any (fun x => !decide (0 ≤ x ∧ x ≤ 1000)) = true := by
        refine Classical.byContradiction fun hn => h fun w hw => ?_
        rw [Bool.not_eq_true, List.any_eq_false] at hn
        have := hn w hw
        simpa using this
      rw [this]; rfl
  · rw [if_neg (by omega)]
    congr 1; symm; rw [decide_eq_false_iff_not]; exact fun k => e k.1
open Classical in
theorem implHeaviestBy_eq (g : List (List Int)) (K V : List Int) (B C : List (List Int)) (ws : List Int) (hgl : g.length ≤ 1048576) (hl : ∀ x ∈ g, x.length ≤ 1048576) (hn : NiceLen (K, V, B, C)) (hw : ws.length ≤ 1048576) : F_impl_HeaviestBy g K V B C ws = some (resHeaviest g K V B C ws) := by
  unfold F_impl_HeaviestBy resHeaviest
  rw [cal_of (implNiceOk_eq g K V B C hgl hl hn.r2 hn.r3)]
  by_cases h : NiceIs g K V B C
  · rw [if_neg (by rw [decide_eq_true h]; simp), cal_of (goodWeights_eq g ws hw)]
    by_cases hW : WOk g.length ws
    · obtain ⟨T, hT, hv⟩ := runW_eq (ws := ws) h hW
      have e : runF F_impl_maskOf (stRu (bvs (nb g)) (fun v => F_impl_HeaviestBy_1 v ws) (fun x y => wr (x + y)) max) (putT noT 0#32 0) K V B C = some T := hT
      rw [if_neg (by rw [decide_eq_true hW]; simp), if_pos ⟨h, hW⟩, cal_of (netsOf_eq h.1), cal_of e, hv]
      have h0 := wval_zero (ws := ws) h (K.length - 1) (by have := h.2.1; omega)
      unfold ent
      rw [if_neg (by omega)]; rfl
    · rw [if_pos (by rw [decide_eq_false hW]; simp), if_neg (fun k => hW k.2)]
  · rw [if_pos (by rw [decide_eq_false h]; simp), if_neg (fun k => h k.1)]
end Go.Proofs.Ytnebbhginakaiaa

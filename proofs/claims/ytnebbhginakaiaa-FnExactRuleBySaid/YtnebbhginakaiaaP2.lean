/- Plain texts: Cod, Tree, Gat, TreeS, MatSum, TreeI, StabKey, TreeM, TreeRun, TreeR, TreeRI, DiceF, Colour, Critical, GDel, TreeRR, TreeRM, LawNice. -/
import Derived.Test.YtnebbhginakaiaaP1
import Derived.Test.YtnebbhginakaiaaRul
import Derived.Test.YtnebbhginakaiaaF
/- Rows of states as numbers: what stands at each vertex of a bag, the first vertex's digit the least. -/
namespace Go.Proofs.Ytnebbhginakaiaa
def cod (k : Nat) : List Int → (Nat → Nat) → Nat
  | [], _ => 0
  | v :: b, f => f v.toNat + k * cod k b f
theorem cod_cons (k : Nat) (v : Int) (b : List Int) (f : Nat → Nat) : cod k (v :: b) f = f v.toNat + k * cod k b f := rfl
def upd1 (f : Nat → Nat) (v c : Nat) : Nat → Nat := fun x => if x = v then c else f x
theorem cod_congr {k : Nat} : ∀ {b : List Int} {f f' : Nat → Nat}, (∀ v ∈ b, f v.toNat = f' v.toNat) → cod k b f = cod k b f'
  | [], _, _, _ => rfl
  | v :: b, f, f', h => by
    rw [cod_cons, cod_cons, h v (by simp), cod_congr (b := b) (fun u hu => h u (by simp [hu]))]
theorem cod_lt {k : Nat} : ∀ {b : List Int} {f : Nat → Nat}, (∀ v ∈ b, f v.toNat < k) → cod k b f < k ^ b.length
  | [], _, _ => by simp [cod]
  | v :: b, f, h => by
    have h1 := h v (by simp)
    have h2 := cod_lt (b := b) (fun u hu => h u (by simp [hu]))
    rw [cod_cons, List.length_cons, Nat.pow_succ, Nat.mul_comm (k ^ b.length) k]
    calc f v.toNat + k * cod k b f < k + k * cod k b f := by omega
      _ = k * (cod k b f + 1) := by rw [Nat.mul_add]; omega
      _ ≤ k * k ^ b.length := Nat.mul_le_mul_left _ h2
theorem cod_append {k : Nat} : ∀ (b1 b2 : List Int) (f : Nat → Nat), cod k (b1 ++ b2) f = cod k b1 f + k ^ b1.length * cod k b2 f
  | [], b2, f => by simp [cod]
  | v :: b1, b2, f => by
    rw [List.cons_append]
    rw [cod_cons, cod_cons, cod_append b1 b2 f, List.length_cons, Nat.pow_succ, Nat.mul_add, Nat.mul_comm (k ^ b1.length) k, Nat.mul_assoc]; omega
theorem cod_low {k p c1 x : Nat} (hp : 0 < p) (h : c1 < p) : (c1 + p * x) / p = x ∧ (c1 + p * x) % p = c1 := by
  rw [Nat.add_mul_div_left _ _ hp, Nat.div_eq_of_lt h, Nat.add_mul_mod_self_left, Nat.mod_eq_of_lt h]; exact ⟨Nat.zero_add _, rfl⟩
theorem cod_digit {k : Nat} {b1 b2 : List Int} {v : Int} {f : Nat → Nat} (h : ∀ u ∈ b1 ++ v :: b2, f u.toNat < k) : cod k (b1 ++ v :: b2) f / k ^ b1.length % k = f v.toNat := by
  have hv := h v (by simp)
  have hk : 0 < k := by omega
  have h1 := cod_lt (k := k) (b := b1) (f := f) (fun u hu => h u (by simp [hu]))
  rw [cod_append, (cod_low (k := k) (Nat.pow_pos hk) h1).1]
  rw [cod_cons, Nat.add_mul_mod_self_left, Nat.mod_eq_of_lt hv]
theorem cod_out {k : Nat} {b1 b2 : List Int} {v : Int} {f : Nat → Nat} (h : ∀ u ∈ b1 ++ v :: b2, f u.toNat < k) :
    cod k (b1 ++ v :: b2) f / (k ^ b1.length * k) * k ^ b1.length + cod k (b1 ++ v :: b2) f % k ^ b1.length = cod k (b1 ++ b2) f := by
  have hv := h v (by simp)
  have hk : 0 < k := by omega
  have h1 := cod_lt (k := k) (b := b1) (f := f) (fun u hu => h u (by simp [hu]))
  have h2 := cod_low (k := k) (x := cod k (v :: b2) f) (Nat.pow_pos hk) h1
  rw [cod_append, ← Nat.div_div_eq_div_mul, h2.1, h2.2, cod_append]
  rw [cod_cons, Nat.add_mul_div_left _ _ hk, Nat.div_eq_of_lt hv, Nat.zero_add, Nat.mul_comm, Nat.add_comm]
theorem cod_surj {k : Nat} : ∀ (b : List Int), b.Pairwise (fun u v => u.toNat ≠ v.toNat) → ∀ s, s < k ^ b.length → ∃ f : Nat → Nat, (∀ v ∈ b, f v.toNat < k) ∧ (∀ x, (∀ v ∈ b, v.toNat ≠ x) → f x = 0) ∧ cod k b f = s
  | [], _, s, hs => ⟨fun _ => 0, by simp, fun _ _ => rfl, by simp at hs; subst hs; rfl⟩
  | v :: b, hp, s, hs => by
    obtain ⟨h1, h2⟩ := List.pairwise_cons.1 hp
    rw [List.length_cons, Nat.pow_succ] at hs
    have hk : 0 < k := by rcases Nat.eq_zero_or_pos k with e | e; subst e; omega; exact e
    obtain ⟨f, hf1, hf2, hf3⟩ := cod_surj b h2 (s / k) (Nat.div_lt_of_lt_mul (by rw [Nat.mul_comm]; exact hs))
    have hne : ∀ u ∈ b, u.toNat ≠ v.toNat := fun u hu e => h1 u hu e.symm
    refine ⟨upd1 f v.toNat (s % k), fun u hu => ?_, fun x hx => ?_, ?_⟩
    · unfold upd1; split
      · exact Nat.mod_lt _ hk
      · rename_i c
        rcases List.mem_cons.1 hu with e | hu
        · subst e; exact absurd rfl c
        · exact hf1 u hu
    · unfold upd1
      rw [if_neg (fun e => hx v (by simp) e.symm)]
      exact hf2 x fun u hu => hx u (by simp [hu])
    · show upd1 f v.toNat (s % k) v.toNat + k * cod k b (upd1 f v.toNat (s % k)) = s
      rw [cod_congr (f' := f) (fun u hu => by unfold upd1; rw [if_neg (hne u hu)]), hf3, show upd1 f v.toNat (s % k) v.toNat = s % k by unfold upd1; rw [if_pos rfl]]
      exact Nat.mod_add_div s k
/-! ## the reference's arithmetic -/
theorem pow_in {k n : Nat} (hk : k ≤ 4) (hn : n ≤ 9) : k ^ n ≤ 262144 := by
  rcases Nat.eq_zero_or_pos k with e | e
  · subst e; rcases Nat.eq_zero_or_pos n with e | e
    · subst e; decide
    · rw [Nat.zero_pow e]; omega
  · calc k ^ n ≤ 4 ^ n := Nat.pow_le_pow_left hk n
      _ ≤ 4 ^ 9 := Nat.pow_le_pow_right (by decide) hn
      _ ≤ 262144 := by decide
theorem l29Power_eq {k n : Nat} (hk : k ≤ 4) (hn : n ≤ 9) : F_spec_l29Power (k : Int) (n : Int) = some ((k ^ n : Nat) : Int) := by
  unfold F_spec_l29Power
  have key := lp_upto (step := fun s => F_spec_l29Power_l1 (k : Int) s.1 s.2) (fun j => (((n - j : Nat) : Int), ((k ^ j : Nat) : Int))) n (o := Sum.inl ((k ^ n : Nat) : Int)) (s := ((n : Int), 1)) (by simp) (fun j hj => by
    simp only [F_spec_l29Power_l1]
    have h1 := pow_in hk (show j + 1 ≤ 9 by omega)
    rw [Nat.pow_succ] at h1
    have h2 : (((k ^ j : Nat) : Int) * (k : Int)) = ((k ^ (j + 1) : Nat) : Int) := by rw [Nat.pow_succ]; push_cast; rfl
    rw [if_pos (by omega), h2, ck_of (inI (by omega) (by rw [Nat.pow_succ]; omega)), ck_of (inI (by omega) (by omega)), show ((n - j : Nat) : Int) - 1 = ((n - (j + 1) : Nat) : Int) by omega]) (by
    simp only [F_spec_l29Power_l1]
    rw [if_neg (by omega)])
  rw [key]; rfl
theorem l29At_eq {b1 b2 : List Int} {v : Int} (hv : ∀ u ∈ b1, u ≠ v) (hl : b1.length ≤ 8) : F_spec_l29At (b1 ++ v :: b2) v = some ((b1.length : Nat) : Int) := by
  unfold F_spec_l29At
  have key := lp_upto (step := fun s => F_spec_l29At_l1 (b1 ++ v :: b2) v s) (fun j => ((j : Nat) : Int)) b1.length (o := (Sum.inr ((b1.length : Nat) : Int) : Unit ⊕ Int)) (s := (0 : Int)) rfl (fun j hj => by
    simp only [F_spec_l29At_l1]
    rw [if_pos (by rw [List.length_append, List.length_cons]; omega), idx_of (x := b1[j]) (by omega) (by rw [Int.toNat_natCast, List.getElem?_append_left hj, List.getElem?_eq_getElem hj]), if_neg (hv _ (List.getElem_mem hj)), ck_of (inI (by omega) (by omega))]; rfl) (by
    simp only [F_spec_l29At_l1]
    rw [if_pos (by rw [List.length_append, List.length_cons]; omega), idx_of (x := v) (by omega) (by rw [Int.toNat_natCast, List.getElem?_append_right (Nat.le_refl _), Nat.sub_self]; rfl), if_pos rfl])
  rw [key]; rfl
theorem inI_natlt {n : Nat} (h : n ≤ 4611686018427387904) : InI (n : Int) := inI (by omega) (by omega)
theorem pow_pos_int {k n : Nat} (h : 0 < k) : (0 : Int) < ((k ^ n : Nat) : Int) := by have := Nat.pow_pos (n := n) h; omega
theorem l29Digit_eq {k s a : Nat} (hk : k ≤ 4) (h0 : 0 < k) (ha : a ≤ 8) : F_spec_l29Digit (s : Int) (k : Int) (a : Int) = some ((s / k ^ a % k : Nat) : Int) := by
  unfold F_spec_l29Digit
  rw [cal_of (l29Power_eq hk (by omega)), grd_of ⟨by omega, pow_pos_int h0⟩, grd_of ⟨Int.ediv_nonneg (by omega) (by omega), by omega⟩]
  congr 1
theorem l29Out_eq {k s a : Nat} (hk : k ≤ 4) (h0 : 0 < k) (ha : a ≤ 8) (hs : s ≤ 262144) : F_spec_l29Out (s : Int) (k : Int) (a : Int) = some ((s / (k ^ a * k) * k ^ a + s % k ^ a : Nat) : Int) := by
  unfold F_spec_l29Out
  have h1 := pow_in (k := k) (n := a + 1) hk (by omega)
  rw [Nat.pow_succ] at h1
  have hp := Nat.pow_pos (n := a) h0
  have e1 : (((k ^ a : Nat) : Int) * (k : Int)) = ((k ^ a * k : Nat) : Int) := by push_cast; rfl
  have h2 : s / (k ^ a * k) * k ^ a ≤ s := by
    calc s / (k ^ a * k) * k ^ a ≤ s / (k ^ a * k) * (k ^ a * k) := Nat.mul_le_mul_left _ (Nat.le_mul_of_pos_right _ h0)
      _ ≤ s := Nat.div_mul_le_self _ _
  have e2 : ((s : Int) / ((k ^ a * k : Nat) : Int) * ((k ^ a : Nat) : Int)) = ((s / (k ^ a * k) * k ^ a : Nat) : Int) := by push_cast; rfl
  have e3 : ((s : Int) % ((k ^ a : Nat) : Int)) = ((s % k ^ a : Nat) : Int) := by push_cast; rfl
  have h3 := Nat.mod_le s (k ^ a)
  have e5 : ((s / (k ^ a * k) * k ^ a : Nat) : Int) + ((s % k ^ a : Nat) : Int) = ((s / (k ^ a * k) * k ^ a + s % k ^ a : Nat) : Int) := by push_cast; rfl
  have h4 : 0 < k ^ a * k := Nat.mul_pos hp h0
  rw [cal_of (l29Power_eq hk (by omega)), e1, ck_of (inI (by omega) (by omega)), grd_of ⟨by omega, by omega⟩, e2, ck_of (inI_natlt (by omega)), grd_of ⟨by omega, by omega⟩, e3, e5, ck_of (inI_natlt (by omega))]
def nearC (g : List (List Int)) (b : List Int) (f : Nat → Nat) (v : Int) (c : Nat) : Prop := ∃ u ∈ b, u ∈ g.getD v.toNat [] ∧ f u.toNat = c
open Classical in
theorem l29Near_eq {g : List (List Int)} (hl : ∀ x ∈ g, x.length ≤ 1048576) {k : Nat} (hk : k ≤ 4) (h0 : 0 < k) {b : List Int} (hb : b.length ≤ 8) {f : Nat → Nat} (hf : ∀ u ∈ b, f u.toNat < k) {v : Int} (hv0 : 0 ≤ v) (hv : v < g.length) (c : Nat) :
    F_spec_l29Near g b (cod k b f : Int) (k : Int) v (c : Int) = some (decide (nearC g b f v c)) := by
  unfold F_spec_l29Near
  have hrow : g.getD v.toNat [] ∈ g := by rw [List.getD_eq_getElem?_getD, List.getElem?_eq_getElem (by omega)]; exact List.getElem_mem _
  have ed : ∀ u, F_spec_l1Edge g v u = some (decide (u ∈ g.getD v.toNat [])) := fun u => by
    unfold F_spec_l1Edge
    rw [idx_of (x := g.getD v.toNat []) hv0 (by rw [List.getD_eq_getElem?_getD, List.getElem?_eq_getElem (by omega)]; rfl), cal_of (l1Has_eq _ _ (by have := hl _ hrow; omega))]
  have dg : ∀ j (hj : j < b.length), F_spec_l29Digit (cod k b f : Int) (k : Int) (j : Int) = some ((f (b[j]).toNat : Nat) : Int) := fun j hj => by
    rw [l29Digit_eq hk h0 (by omega)]
    have e : b = b.take j ++ b[j] :: b.drop (j + 1) := by rw [List.getElem_cons_drop, List.take_append_drop]
    have h := cod_digit (k := k) (b1 := b.take j) (b2 := b.drop (j + 1)) (v := b[j]) (f := f) (by rw [← e]; exact hf)
    rw [← e, List.length_take, Nat.min_eq_left (by omega)] at h
    rw [h]
  rw [lp_find (l := b) (p := fun u => decide (u ∈ g.getD v.toNat [] ∧ f u.toNat = c)) (f := fun _ => true) (step := fun s => F_spec_l29Near_l1 g b (cod k b f : Int) (k : Int) v (c : Int) s) (fun j hj hp => by
      simp only [decide_eq_false_iff_not] at hp
      simp only [F_spec_l29Near_l1]
      rw [if_pos (by omega), idx_nat hj, cal_of (ed _)]
      by_cases h1 : b[j] ∈ g.getD v.toNat []
      · rw [if_pos (by simp only [decide_eq_true_eq]; exact h1), cal_of (dg j hj), if_neg (fun h => hp ⟨h1, by omega⟩), ck_of (inI (by omega) (by omega))]
      · rw [if_neg (by simp only [decide_eq_true_eq]; exact h1), ck_of (inI (by omega) (by omega))])
    (fun j hj hp => by
      simp only [decide_eq_true_eq] at hp
      simp only [F_spec_l29Near_l1]
      rw [if_pos (by omega), idx_nat hj, cal_of (ed _), if_pos (by simp only [decide_eq_true_eq]; exact hp.1), cal_of (dg j hj), if_pos (by rw [hp.2])])
    (by simp only [F_spec_l29Near_l1]; rw [if_neg (by omega)])]
  cases e : b.findIdx? (fun u => decide (u ∈ g.getD v.toNat [] ∧ f u.toNat = c)) with
  | none =>
    rw [List.findIdx?_eq_none_iff] at e
    have : ¬ nearC g b f v c := fun ⟨u, hu, h1, h2⟩ => by have := e u hu; simp only [decide_eq_false_iff_not] at this; exact this ⟨h1, h2⟩
    rw [decide_eq_false this]; rfl
  | some j =>
    rw [List.findIdx?_eq_some_iff_getElem] at e
    obtain ⟨hj, hp, _⟩ := e
    simp only [decide_eq_true_eq] at hp
    rw [decide_eq_true (show nearC g b f v c from ⟨b[j], List.getElem_mem hj, hp.1, hp.2⟩)]; rfl
end Go.Proofs.Ytnebbhginakaiaa

/- Nice trees, node by node; how many vertices are dropped below a node. -/
namespace Go.Proofs.Ytnebbhginakaiaa
theorem more_split {a b : List Int} {n : Nat} (hn : n ≤ 16) (ha : Rises a n) (hb : Rises b n) {v : Int} (h : More (mk a) (mk b) v) : (0 ≤ v ∧ v < n) ∧ ∃ b1 b2, b = b1 ++ v :: b2 ∧ a = b1 ++ b2 := by
  obtain ⟨hv, h1, h2⟩ := (more_iff hn ha.lt hb.lt).1 h
  have e : ((v.toNat : Nat) : Int) = v := by omega
  have hvb : v ∈ b := by
    have := (hb.mem_mk v.toNat).1 (by rw [h2]; simp [Nat.testBit_or, Nat.testBit_two_pow])
    rwa [e] at this
  obtain ⟨b1, b2, hb12⟩ := List.append_of_mem hvb
  refine ⟨hv, b1, b2, hb12, ?_⟩
  have sb := hb.sorted hn
  rw [hb12] at sb
  have sb' : (b1 ++ b2).Pairwise (· < ·) := sb.sublist (by simp)
  refine sorted_extI (ha.sorted hn) sb' fun x => ?_
  have hva : v ∉ a := fun hm => by have := (ha.mem_mk v.toNat).2 (by rw [e]; exact hm); rw [h1] at this; cases this
  have hvn : v ∉ b1 ++ b2 := fun hm => by
    rw [List.pairwise_append] at sb
    obtain ⟨_, s2, s3⟩ := sb
    rcases List.mem_append.1 hm with g | g
    · have := s3 v g v (by simp); omega
    · have := (List.pairwise_cons.1 s2).1 v g; omega
  have key : ∀ x, x ∈ a ∨ x = v ↔ x ∈ b := fun x => by
    constructor
    · rintro (hx | rfl)
      · have hx0 := ha.mem hx
        have := (ha.mem_mk x.toNat).2 (by rw [show ((x.toNat : Nat) : Int) = x by omega]; exact hx)
        have := (hb.mem_mk x.toNat).1 (by rw [h2, Nat.testBit_or, this]; rfl)
        rwa [show ((x.toNat : Nat) : Int) = x by omega] at this
      · exact hvb
    · intro hx
      have hx0 := hb.mem hx
      have := (hb.mem_mk x.toNat).2 (by rw [show ((x.toNat : Nat) : Int) = x by omega]; exact hx)
      rw [h2, Nat.testBit_or, Nat.testBit_two_pow, Bool.or_eq_true, decide_eq_true_eq] at this
      rcases this with h | h
      · have := (ha.mem_mk x.toNat).1 h
        rw [show ((x.toNat : Nat) : Int) = x by omega] at this; exact .inl this
      · exact .inr (by omega)
  have hk := key x
  rw [hb12] at hk
  simp only [List.mem_append, List.mem_cons] at hk hvn ⊢
  constructor
  · intro hx
    have hne : x ≠ v := fun e => hva (e ▸ hx)
    rcases hk.1 (.inl hx) with h | h | h
    · exact .inl h
    · exact absurd h hne
    · exact .inr h
  · intro hx
    have hne : x ≠ v := fun e => hvn (e ▸ hx)
    rcases hk.2 (by rcases hx with h | h; exact .inl h; exact .inr (.inr h)) with h | h
    · exact h
    · exact absurd h hne
inductive NodeK (n : Nat) (K V : List Int) (B C : List (List Int)) (i : Nat) : Prop
  | leaf (hk : K.getD i 0 = 1) (hb : B.getD i [] = []) (hc : C.getD i [] = [])
  | add (hk : K.getD i 0 = 2) (k : Nat) (hki : k < i) (hc : C.getD i [] = [(k : Int)]) (hv : 0 ≤ V.getD i 0 ∧ V.getD i 0 < n) (b1 b2 : List Int) (hb : B.getD i [] = b1 ++ V.getD i 0 :: b2) (hbk : B.getD k [] = b1 ++ b2)
  | drop (hk : K.getD i 0 = 3) (k : Nat) (hki : k < i) (hc : C.getD i [] = [(k : Int)]) (hv : 0 ≤ V.getD i 0 ∧ V.getD i 0 < n) (b1 b2 : List Int) (hbk : B.getD k [] = b1 ++ V.getD i 0 :: b2) (hb : B.getD i [] = b1 ++ b2)
  | meet (hk : K.getD i 0 = 4) (k l : Nat) (hki : k < i) (hli : l < i) (hc : C.getD i [] = [(k : Int), (l : Int)]) (hbk : B.getD k [] = B.getD i []) (hbl : B.getD l [] = B.getD i [])
section
variable {g : List (List Int)} {K V : List Int} {B C : List (List Int)}
theorem NiceIs.node (h : NiceIs g K V B C) {i : Nat} (hi : i < K.length) : NodeK g.length K V B C i := by
  have h16 := h.1.n16
  obtain ⟨_, _, _, _, _, hN, _⟩ := h
  obtain ⟨hb, hkid, h1⟩ := hN i hi
  have kid : ∀ {k : Nat}, (k : Int) ∈ C.getD i [] → k < i := fun {k} hk => by have := hkid _ hk; omega
  rcases h1 with ⟨e1, e2, e3, e4⟩ | ⟨e1, e2, k, l, hc, e3, e4⟩ | ⟨e1, k, hc, hm⟩ | ⟨e1, k, hc, hm⟩
  · exact .leaf e1 ((mk_nil_iff hb.2).1 e3) e4
  · have hk := kid (k := k) (by rw [hc]; simp)
    have hl := kid (k := l) (by rw [hc]; simp)
    exact .meet e1 k l hk hl hc ((rises_ext (hN k (by omega)).1.2 hb.2 h16).1 e3) ((rises_ext (hN l (by omega)).1.2 hb.2 h16).1 e4)
  · have hk := kid (k := k) (by rw [hc]; simp)
    obtain ⟨hv, b1, b2, x1, x2⟩ := more_split h16 (hN k (by omega)).1.2 hb.2 hm
    exact .add e1 k hk hc hv b1 b2 x1 x2
  · have hk := kid (k := k) (by rw [hc]; simp)
    obtain ⟨hv, b1, b2, x1, x2⟩ := more_split h16 hb.2 (hN k (by omega)).1.2 hm
    exact .drop e1 k hk hc hv b1 b2 x1 x2
theorem NiceIs.bag (h : NiceIs g K V B C) {i : Nat} (hi : i < K.length) : (B.getD i []).length ≤ 8 ∧ Rises (B.getD i []) g.length := (h.2.2.2.2.2.1 i hi).1
theorem NiceIs.nodup (h : NiceIs g K V B C) {i : Nat} (hi : i < K.length) : (B.getD i []).Pairwise (fun u v => u.toNat ≠ v.toNat) := by
  have hb := (h.bag hi).2
  refine List.Pairwise.imp_of_mem (fun {u v} hu hv huv => ?_) (hb.sorted h.1.n16)
  have := hb.mem hu; have := hb.mem hv; omega
theorem NiceIs.last (h : NiceIs g K V B C) : B.getD (K.length - 1) [] = [] := by
  have h1 := h.2.1
  exact (mk_nil_iff (h.bag (i := K.length - 1) (by omega)).2).1 h.2.2.2.2.2.2.1
def kidAt (C : List (List Int)) (i j : Nat) : Nat := ((C.getD i []).getD j 0).toNat
noncomputable def dn (K : List Int) (C : List (List Int)) (i : Nat) : Nat :=
  (if K.getD i 0 = 3 then 1 else 0) + (if h : kidAt C i 0 < i ∧ 0 < (C.getD i []).length then dn K C (kidAt C i 0) else 0) + (if h : kidAt C i 1 < i ∧ 1 < (C.getD i []).length then dn K C (kidAt C i 1) else 0)
termination_by i
decreasing_by all_goals exact h.1
theorem dn_one {i k : Nat} (hki : k < i) (hc : C.getD i [] = [(k : Int)]) : dn K C i = (if K.getD i 0 = 3 then 1 else 0) + dn K C k := by
  have e : kidAt C i 0 = k := by unfold kidAt; rw [hc]; rfl
  rw [dn, dif_pos ⟨by rw [e]; exact hki, by rw [hc]; simp⟩, dif_neg (by rw [hc]; simp), e]; rfl
theorem dn_two {i k l : Nat} (hki : k < i) (hli : l < i) (hc : C.getD i [] = [(k : Int), (l : Int)]) : dn K C i = (if K.getD i 0 = 3 then 1 else 0) + dn K C k + dn K C l := by
  have e : kidAt C i 0 = k := by unfold kidAt; rw [hc]; rfl
  have e1 : kidAt C i 1 = l := by unfold kidAt; rw [hc]; rfl
  rw [dn, dif_pos ⟨by rw [e]; exact hki, by rw [hc]; simp⟩, dif_pos ⟨by rw [e1]; exact hli, by rw [hc]; simp⟩, e, e1]
theorem dn_none {i : Nat} (hc : C.getD i [] = []) : dn K C i = if K.getD i 0 = 3 then 1 else 0 := by
  rw [dn, dif_neg (by rw [hc]; simp), dif_neg (by rw [hc]; simp)]; rfl
theorem sumN_split {α : Type} {f g h : α → Nat} : ∀ {l : List α}, (∀ x ∈ l, f x = g x + h x) → (l.map f).sum = (l.map g).sum + (l.map h).sum
  | [], _ => rfl
  | x :: l, hx => by simp only [List.map_cons, List.sum_cons]; rw [hx x (by simp), sumN_split (l := l) fun y hy => hx y (by simp [hy])]; omega
theorem sumN_zero {α : Type} {f : α → Nat} : ∀ {l : List α}, (∀ x ∈ l, f x = 0) → (l.map f).sum = 0
  | [], _ => rfl
  | x :: l, h => by rw [List.map_cons, List.sum_cons, h x (by simp), sumN_zero (l := l) fun y hy => h y (by simp [hy])]
theorem sumN_one {w : Nat → Nat} {k : Nat} : ∀ (i : Nat), k < i → ((List.range i).map fun j => if j = k then w j else 0).sum = w k
  | 0, h => by omega
  | i + 1, h => by
    rw [List.range_succ, List.map_append, List.sum_append]
    simp only [List.map_cons, List.map_nil, List.sum_cons, List.sum_nil]
    by_cases e : k = i
    · subst e
      rw [if_pos rfl]
      have : ((List.range k).map fun j => if j = k then w j else 0).sum = 0 := by
        have : ∀ (l : List Nat), (∀ x ∈ l, x < k) → (l.map fun j => if j = k then w j else 0).sum = 0 := by
          intro l; induction l with
          | nil => intro _; rfl
          | cons x l ih => intro hx; simp only [List.map_cons, List.sum_cons]; rw [if_neg (by have := hx x (by simp); omega), ih fun y hy => hx y (by simp [hy])]
        exact this _ fun x hx => by simpa using hx
      omega
    · rw [sumN_one i (by omega), if_neg (fun h => e h.symm)]; rfl
noncomputable def roots (K : List Int) (C : List (List Int)) (i : Nat) : Nat := ((List.range i).map fun j : Nat => if (j : Int) ∈ kidsTo C i then 0 else dn K C j).sum
theorem NiceIs.kid_once (h : NiceIs g K V B C) {v : Nat} (hv : v + 1 < K.length) : (kidsTo C K.length).count (v : Int) = 1 := h.2.2.2.2.2.2.2.1 v hv
theorem count_kids_mono (C : List (List Int)) {i m : Nat} (hi : i ≤ m) (x : Int) : (kidsTo C i).count x ≤ (kidsTo C m).count x := by
  unfold kidsTo
  have : C.take m = C.take i ++ (C.take m).drop i := by
    conv => lhs; rw [← List.take_append_drop i (C.take m)]
    rw [List.take_take, Nat.min_eq_left hi]
  rw [this, List.flatten_append, List.count_append]; omega
theorem NiceIs.roots (h : NiceIs g K V B C) : ∀ i, i ≤ K.length → roots K C i = (dropsTo K V i).length
  | 0, _ => by simp [Go.Proofs.Ytnebbhginakaiaa.roots, dropsTo]
  | i + 1, hi => by
    have ih := h.roots i (by omega)
    have hC := h.2.2.2.2.1
    have hci : i < C.length := by omega
    have hks : kidsTo C (i + 1) = kidsTo C i ++ C.getD i [] := by rw [kidsTo_succ hci, List.getD_eq_getElem?_getD, List.getElem?_eq_getElem hci]; rfl
    have hnd := h.node (i := i) (by omega)
    have hkids : ∀ x ∈ C.getD i [], 0 ≤ x ∧ x < i := (h.2.2.2.2.2.1 i (by omega)).2.1
    have hself : ((i : Nat) : Int) ∉ kidsTo C (i + 1) := fun hm => by
      obtain ⟨j, hj, hx⟩ := mem_kidsTo hm
      have := (h.2.2.2.2.2.1 j (by omega)).2.1 _ hx; omega
    have honce : ∀ x ∈ C.getD i [], (kidsTo C (i + 1)).count x = 1 := fun x hx => by
      obtain ⟨h0, h1⟩ := hkids x hx
      have h2 := h.kid_once (v := x.toNat) (by omega)
      rw [show ((x.toNat : Nat) : Int) = x by omega] at h2
      have h3 := count_kids_mono C (i := i + 1) (m := K.length) hi x
      have h4 : 0 < (kidsTo C (i + 1)).count x := List.count_pos_iff.2 (by rw [hks]; exact List.mem_append_right _ hx)
      omega
    have hnot : ∀ x ∈ C.getD i [], x ∉ kidsTo C i := fun x hx hm => by
      have h1 := honce x hx
      rw [hks, List.count_append] at h1
      have h2 := List.count_pos_iff.2 hm
      have h3 := List.count_pos_iff.2 hx
      omega
    -- the sum over the elder ones
    have hold : ((List.range i).map fun j : Nat => if (j : Int) ∈ kidsTo C i then 0 else dn K C j).sum = ((List.range i).map fun j : Nat => if (j : Int) ∈ kidsTo C (i + 1) then 0 else dn K C j).sum + ((List.range i).map fun j : Nat => if (j : Int) ∈ C.getD i [] then dn K C j else 0).sum := by
      refine sumN_split fun j hj => ?_
      rw [hks]
      by_cases c1 : (j : Int) ∈ C.getD i []
      · rw [if_neg (hnot _ c1), if_pos (List.mem_append_right _ c1), if_pos c1]; omega
      · by_cases c2 : (j : Int) ∈ kidsTo C i
        · rw [if_pos c2, if_pos (List.mem_append_left _ c2), if_neg c1]
        · rw [if_neg c2, if_neg (fun hm => (List.mem_append.1 hm).elim c2 c1), if_neg c1]; omega
    have hnew : Go.Proofs.Ytnebbhginakaiaa.roots K C (i + 1) = ((List.range i).map fun j : Nat => if (j : Int) ∈ kidsTo C (i + 1) then 0 else dn K C j).sum + dn K C i := by
      unfold Go.Proofs.Ytnebbhginakaiaa.roots
      rw [List.range_succ, List.map_append, List.sum_append]
      simp only [List.map_cons, List.map_nil, List.sum_cons, List.sum_nil]
      rw [if_neg hself]; rfl
    have hdn : dn K C i = (if K.getD i 0 = 3 then 1 else 0) + ((List.range i).map fun j : Nat => if (j : Int) ∈ C.getD i [] then dn K C j else 0).sum := by
      have one : ∀ k : Nat, k < i → C.getD i [] = [(k : Int)] → ((List.range i).map fun j : Nat => if (j : Int) ∈ C.getD i [] then dn K C j else 0).sum = dn K C k := fun k hki hc => by
        rw [hc, ← sumN_one (w := dn K C) i hki]
        refine congrArg List.sum (List.map_congr_left fun j _ => ?_)
        simp only [List.mem_singleton, Int.natCast_inj]
      cases hnd with
      | leaf hk hb hc => rw [dn_none hc, hc, sumN_zero fun j _ => by simp]; rfl
      | add hk k hki hc hv b1 b2 hb hbk => rw [dn_one hki hc, one k hki hc]
      | drop hk k hki hc hv b1 b2 hb hbk => rw [dn_one hki hc, one k hki hc]
      | meet hk k l hki hli hc hbk hbl =>
        have hkl : k ≠ l := fun e => by
          have h1 := honce (k : Int) (by rw [hc]; simp)
          rw [hks, hc, List.count_append, ← e] at h1
          simp at h1
        rw [dn_two hki hli hc, hc, ← sumN_one (w := dn K C) i hki, ← sumN_one (w := dn K C) (k := l) i hli, Nat.add_assoc]
        congr 1
        refine (sumN_split fun j _ => ?_).symm
        simp only [List.mem_cons, List.not_mem_nil, or_false, Int.natCast_inj]
        by_cases e1 : j = k
        · subst e1; rw [if_pos (.inl rfl), if_pos rfl, if_neg hkl]; rfl
        · by_cases e2 : j = l
          · subst e2; rw [if_pos (.inr rfl), if_neg e1, if_pos rfl]; omega
          · rw [if_neg (fun h => h.elim e1 e2), if_neg e1, if_neg e2]
    unfold Go.Proofs.Ytnebbhginakaiaa.roots at ih
    rw [hnew, dropsTo_succ]
    by_cases c : K.getD i 0 = 3
    · rw [if_pos c, List.length_append]; rw [if_pos c] at hdn; simp only [List.length_singleton]; omega
    · rw [if_neg c]; rw [if_neg c] at hdn; omega
theorem len_count {n : Nat} : ∀ {l : List Int}, (∀ x ∈ l, 0 ≤ x ∧ x < n) → (∀ v, v < n → l.count (v : Int) ≤ 1) → l.length ≤ n := by
  intro l h hc
  have hnd : l.Nodup := by
    rw [List.nodup_iff_count]
    intro x
    by_cases hx : x ∈ l
    · have := h x hx
      have := hc x.toNat (by omega)
      rwa [show ((x.toNat : Nat) : Int) = x by omega] at this
    · rw [List.count_eq_zero.2 hx]; omega
  have hsub : l ⊆ (List.range n).map (fun j : Nat => (j : Int)) := fun x hx => by
    have := h x hx
    exact List.mem_map.2 ⟨x.toNat, List.mem_range.2 (by omega), by omega⟩
  have := hnd.length_le_of_subset hsub
  simpa using this
theorem NiceIs.drops_le (h : NiceIs g K V B C) : (dropsTo K V K.length).length ≤ g.length :=
  len_count (h.2.2.2.2.2.1.drops h.1.n16 (Nat.le_refl _)) fun v hv => Nat.le_of_eq (h.2.2.2.2.2.2.2.2.1 v hv)
theorem le_sumN {w : Nat → Nat} {i j : Nat} (h : j < i) : w j ≤ ((List.range i).map w).sum := by
  rw [← sumN_one (w := w) i h]
  have : ∀ l : List Nat, (l.map fun x => if x = j then w x else 0).sum ≤ (l.map w).sum := by
    intro l; induction l with
    | nil => exact Nat.le_refl _
    | cons x l ih => simp only [List.map_cons, List.sum_cons]; split <;> omega
  exact this _
theorem dropsTo_mono (K V : List Int) {i m : Nat} (h : i ≤ m) : (dropsTo K V i).length ≤ (dropsTo K V m).length := by
  induction m with
  | zero => rw [Nat.le_zero.1 h]; exact Nat.le_refl _
  | succ m ih =>
    by_cases e : i = m + 1
    · subst e; exact Nat.le_refl _
    · refine Nat.le_trans (ih (by omega)) ?_
      rw [dropsTo_succ]; split
      · rw [List.length_append]; omega
      · exact Nat.le_refl _
theorem NiceIs.dn_le (h : NiceIs g K V B C) {i : Nat} (hi : i < K.length) : dn K C i ≤ 16 := by
  have h1 := h.roots (i + 1) (by omega)
  have h2 := dropsTo_mono K V (i := i + 1) (m := K.length) (by omega)
  have h3 := h.drops_le
  have h4 := h.1.n16
  have hself : ((i : Nat) : Int) ∉ kidsTo C (i + 1) := fun hm => by
    obtain ⟨j, hj, hx⟩ := mem_kidsTo hm
    have := (h.2.2.2.2.2.1 j (by omega)).2.1 _ hx; omega
  have h5 := le_sumN (w := fun j : Nat => if (j : Int) ∈ kidsTo C (i + 1) then 0 else dn K C j) (show i < i + 1 by omega)
  simp only [if_neg hself] at h5
  unfold Go.Proofs.Ytnebbhginakaiaa.roots at h1
  omega
end
end Go.Proofs.Ytnebbhginakaiaa

/- What is gathered, summed up: tables and lists of entries. -/
namespace Go.Proofs.Ytnebbhginakaiaa
theorem flatMap_same {α β : Type} {f g : α → List β} : ∀ {l : List α}, (∀ x ∈ l, f x = g x) → l.flatMap f = l.flatMap g
  | [], _ => rfl
  | x :: l, h => by rw [List.flatMap_cons, List.flatMap_cons, h x (by simp), flatMap_same fun y hy => h y (by simp [hy])]
def finT {κ : Type} (T : Tf κ) : Prop := ∃ l, IsL l T
theorem fin_no {κ : Type} : finT (noT : Tf κ) := ⟨[], IsL.empty⟩
section
variable {κ : Type} [DecidableEq κ]
theorem put_fin {T : Tf κ} (h : finT T) (a : κ) (n : Int) : finT (putT T a n) := by
  obtain ⟨l, hl⟩ := h
  cases hT : T a with
  | none => exact ⟨_, hl.push hT⟩
  | some o =>
    obtain ⟨j, hj⟩ := List.getElem?_of_mem ((hl.mem a o).1 hT)
    exact ⟨_, hl.set hj⟩
theorem gat_fin {pick : Int → Int → Int} : ∀ {l : List (κ × Int)} {T : Tf κ}, finT T → finT (gatL pick T l)
  | [], T, h => h
  | p :: l, T, h => gat_fin (l := l) (T := gatT pick T p) (put_fin h p.1 _)
end
end Go.Proofs.Ytnebbhginakaiaa

/- How many colourings there are below each node: what the reference's rows hold. -/
namespace Go.Proofs.Ytnebbhginakaiaa
section
variable {g : List (List Int)} {K V : List Int} {B C : List (List Int)}
theorem kidAt0 {i k : Nat} {r : List Int} (hc : C.getD i [] = (k : Int) :: r) : kidAt C i 0 = k := by unfold kidAt; rw [hc]; rfl
theorem kidAt1 {i k l : Nat} {r : List Int} (hc : C.getD i [] = (k : Int) :: (l : Int) :: r) : kidAt C i 1 = l := by unfold kidAt; rw [hc]; rfl
variable {k : Nat} {st : Bool} {i : Nat}
theorem nearC_congr {b : List Int} {f f' : Nat → Nat} (h : ∀ v ∈ b, f v.toNat = f' v.toNat) (v : Int) (c : Nat) : nearC g b f v c ↔ nearC g b f' v c := by
  unfold nearC
  exact ⟨fun ⟨u, h1, h2, h3⟩ => ⟨u, h1, h2, by rw [← h u h1]; exact h3⟩, fun ⟨u, h1, h2, h3⟩ => ⟨u, h1, h2, by rw [h u h1]; exact h3⟩⟩
/-! ## rows -/
noncomputable def dec (k : Nat) (b : List Int) (s : Nat) : Nat → Nat := open Classical in
  if h : ∃ f : Nat → Nat, (∀ v ∈ b, f v.toNat < k) ∧ cod k b f = s then h.choose else fun _ => 0
theorem dec_spec {k : Nat} {b : List Int} (hb : b.Pairwise (fun u v => u.toNat ≠ v.toNat)) {s : Nat} (hs : s < k ^ b.length) : (∀ v ∈ b, dec k b s v.toNat < k) ∧ cod k b (dec k b s) = s := by
  obtain ⟨f, h1, _, h3⟩ := cod_surj b hb s hs
  have e : ∃ f : Nat → Nat, (∀ v ∈ b, f v.toNat < k) ∧ cod k b f = s := ⟨f, h1, h3⟩
  unfold dec
  rw [dif_pos e]
  exact e.choose_spec
theorem cod_inj {k : Nat} : ∀ {b : List Int} {f f' : Nat → Nat}, (∀ v ∈ b, f v.toNat < k) → (∀ v ∈ b, f' v.toNat < k) → cod k b f = cod k b f' → ∀ v ∈ b, f v.toNat = f' v.toNat
  | [], _, _, _, _, _ => by simp
  | u :: b, f, f', h, h', e => by
    rw [cod_cons, cod_cons] at e
    have h1 := h u (by simp)
    have h2 := h' u (by simp)
    have e1 : f u.toNat = f' u.toNat := by
      have := congrArg (· % k) e
      simp only [Nat.add_mul_mod_self_left, Nat.mod_eq_of_lt h1, Nat.mod_eq_of_lt h2] at this
      exact this
    have e2 : cod k b f = cod k b f' := Nat.eq_of_mul_eq_mul_left (show 0 < k by omega) (by omega)
    intro v hv
    rcases List.mem_cons.1 hv with rfl | hv
    · exact e1
    · exact cod_inj (fun v hv => h v (by simp [hv])) (fun v hv => h' v (by simp [hv])) e2 v hv
noncomputable def rowOf (k : Nat) (b : List Int) (v : (Nat → Nat) → Int) : List Int := (List.range (k ^ b.length)).map fun s => v (dec k b s)
theorem getD_idx {β : Type} {l : List Int} {i : Nat} (h : i < l.length) (q : Int → Option β) : idx l (i : Int) q = q (l.getD i 0) := by
  rw [idx_nat h, List.getD_eq_getElem?_getD, List.getElem?_eq_getElem h]; rfl
theorem getL_idx {α β : Type} {l : List (List α)} {i : Nat} (h : i < l.length) (q : List α → Option β) : idx l (i : Int) q = q (l.getD i []) := by
  rw [idx_nat h, List.getD_eq_getElem?_getD, List.getElem?_eq_getElem h]; rfl
noncomputable def rows (k : Nat) (B : List (List Int)) (v : Nat → (Nat → Nat) → Int) (i : Nat) : List (List Int) := (List.range i).map fun j => rowOf k (B.getD j []) (v j)
end
end Go.Proofs.Ytnebbhginakaiaa

/- Sums over all the parts of a bag, and over rows of them. -/
namespace Go.Proofs.Ytnebbhginakaiaa
theorem upd_id (f : Nat → Nat) (u : Nat) : upd1 f u (f u) = f := by
  funext x; unfold upd1
  split
  · rename_i h; rw [h]
  · rfl
theorem upd_at (f : Nat → Nat) (u c : Nat) : upd1 f u c u = c := by unfold upd1; rw [if_pos rfl]
theorem upd_off (f : Nat → Nat) {u x : Nat} (c : Nat) (h : x ≠ u) : upd1 f u c x = f x := by unfold upd1; rw [if_neg h]
/-! ## sums over the first numbers -/
def rs (n : Nat) (F : Nat → Int) : Int := ((List.range n).map F).sum
/-! ## parts as numbers -/
theorem cod_sum {k : Nat} : ∀ (b : List Int) (f f' : Nat → Nat), cod k b (fun x => f x + f' x) = cod k b f + cod k b f'
  | [], _, _ => rfl
  | v :: b, f, f' => by rw [cod_cons, cod_cons, cod_cons, cod_sum b, Nat.mul_add]; omega
end Go.Proofs.Ytnebbhginakaiaa

/- What the run over tables finds, for rules that count: as many as the reference. -/
namespace Go.Proofs.Ytnebbhginakaiaa
def valid (k : Nat) (b : List Int) (f : Nat → Nat) : Prop := ∀ v ∈ b, f v.toNat < k
section
variable {κ : Type} [DecidableEq κ] {g : List (List Int)} {K V : List Int} {B C : List (List Int)} {k : Nat} {st : Bool} {mask : List Int → Option (BitVec 32)} {R : Ru κ} {key : List Int → (Nat → Nat) → κ}
theorem lst_put (a : κ) (n : Int) : lst (putT noT a n) = [(a, n)] := by
  have h : IsL [(a, n)] (putT (noT : Tf κ) a n) := by have := (IsL.empty (κ := κ)).push (a := a) (n := n) rfl; simpa using this
  exact List.perm_singleton.1 ((lst_is h).perm h)
theorem valid_less {b1 b2 : List Int} {v : Int} {f : Nat → Nat} (h : valid k (b1 ++ v :: b2) f) : valid k (b1 ++ b2) f := fun u hu => h u (by simp at hu ⊢; rcases hu with h | h; exact .inl h; exact .inr (.inr h))
theorem valid_more {b1 b2 : List Int} {v : Int} {f : Nat → Nat} {c : Nat} (h : valid k (b1 ++ b2) f) (hc : c < k) : valid k (b1 ++ v :: b2) (upd1 f v.toNat c) := fun u hu => by
  unfold upd1
  split
  · exact hc
  · rename_i hn
    refine h u ?_
    simp only [List.mem_append, List.mem_cons] at hu ⊢
    rcases hu with h | h | h
    · exact .inl h
    · subst h; exact absurd rfl hn
    · exact .inr h
theorem nodup_split {b1 b2 : List Int} {v : Int} (h : (b1 ++ v :: b2).Pairwise (fun u v => u.toNat ≠ v.toNat)) : ∀ u ∈ b1 ++ b2, u.toNat ≠ v.toNat := fun u hu => by
  rcases List.mem_append.1 hu with g1 | g1
  · exact (List.pairwise_append.1 h).2.2 u g1 v (by simp)
  · exact fun e => (List.pairwise_cons.1 (List.pairwise_append.1 h).2.1).1 u g1 e.symm
end
end Go.Proofs.Ytnebbhginakaiaa

/- Sets as keys: the rule of stable sets counts. -/
namespace Go.Proofs.Ytnebbhginakaiaa
theorem ofNat_inj32 {a b : Nat} (ha : a < 2 ^ 32) (hb : b < 2 ^ 32) : BitVec.ofNat 32 a = BitVec.ofNat 32 b ↔ a = b := by
  constructor
  · intro h
    have := congrArg BitVec.toNat h
    rwa [BitVec.toNat_ofNat, BitVec.toNat_ofNat, Nat.mod_eq_of_lt ha, Nat.mod_eq_of_lt hb] at this
  · intro h; rw [h]
theorem nat_inj {b : List Int} {n : Nat} (hb : Rises b n) {u v : Int} (hu : u ∈ b) (hv : v ∈ b) (h : u.toNat = v.toNat) : u = v := by have := hb.mem hu; have := hb.mem hv; omega
section
variable {g : List (List Int)}
theorem row_of (hg : GOk g) {v : Int} (h0 : 0 ≤ v) (h1 : v < g.length) : g.getD v.toNat [] = g[v.toNat]'(by omega) := by rw [List.getD_eq_getElem?_getD, List.getElem?_eq_getElem]; rfl
theorem rises_nodup {n : Nat} (hn : n ≤ 16) {b : List Int} (hb : Rises b n) : b.Pairwise (fun u v => u.toNat ≠ v.toNat) :=
  List.Pairwise.imp_of_mem (fun {u v} hu hv huv => by have := hb.mem hu; have := hb.mem hv; omega) (hb.sorted hn)
end
end Go.Proofs.Ytnebbhginakaiaa

/- Matchings below each node, by those of the bag that are matched: the reference's rows. -/
namespace Go.Proofs.Ytnebbhginakaiaa
section
variable {g : List (List Int)} {K V : List Int} {B C : List (List Int)}
variable {i : Nat}
theorem agree_less {b1 b2 : List Int} {v : Int} {f f' : Nat → Nat} (hf : ∀ u ∈ b1 ++ v :: b2, f u.toNat = f' u.toNat) : ∀ u ∈ b1 ++ b2, f u.toNat = f' u.toNat := fun u hu => hf u (by simp at hu ⊢; rcases hu with h | h; exact .inl h; exact .inr (.inr h))
/-! ## no more than fits -/
end
end Go.Proofs.Ytnebbhginakaiaa

/- The run over tables, node by node: what holds of each node's table. -/
namespace Go.Proofs.Ytnebbhginakaiaa
theorem run_frame {κ : Type} [DecidableEq κ] {g : List (List Int)} {K V : List Int} {B C : List (List Int)} {mask : List Int → Option (BitVec 32)} {R : Ru κ} {start : Tf κ} (h : NiceIs g K V B C) (hmask : ∀ {b : List Int}, Rises b g.length → ∃ mb, mask b = some mb) (J : Nat → Tf κ → Prop)
    (leaf : ∀ {i : Nat}, i < K.length → K.getD i 0 = 1 → B.getD i [] = [] → C.getD i [] = [] → J i start)
    (add : ∀ {i j : Nat} {b1 b2 : List Int} {T : Tf κ} {mb : BitVec 32}, i < K.length → K.getD i 0 = 2 → j < i → C.getD i [] = [(j : Int)] → (0 ≤ V.getD i 0 ∧ V.getD i 0 < g.length) → B.getD i [] = b1 ++ V.getD i 0 :: b2 → B.getD j [] = b1 ++ b2 → J j T → mask (B.getD j []) = some mb → ∃ T', gatF R T (cAdd R (V.getD i 0) mb) = some T' ∧ J i T')
    (drop : ∀ {i j : Nat} {b1 b2 : List Int} {T : Tf κ} {mb : BitVec 32}, i < K.length → K.getD i 0 = 3 → j < i → C.getD i [] = [(j : Int)] → (0 ≤ V.getD i 0 ∧ V.getD i 0 < g.length) → B.getD j [] = b1 ++ V.getD i 0 :: b2 → B.getD i [] = b1 ++ b2 → J j T → mask (B.getD i []) = some mb → ∃ T', gatF R T (cDrop R (V.getD i 0) mb) = some T' ∧ J i T')
    (meet : ∀ {i j l : Nat} {T U : Tf κ}, i < K.length → K.getD i 0 = 4 → j < i → l < i → C.getD i [] = [(j : Int), (l : Int)] → B.getD j [] = B.getD i [] → B.getD l [] = B.getD i [] → J j T → J l U → ∃ T', gatF R T (cMeet R U) = some T' ∧ J i T') :
    ∃ T, runF mask R start K V B C = some T ∧ J (K.length - 1) T := by
  have hm := h.2.1
  have hV : V.length = K.length := h.2.2.1
  have hB : B.length = K.length := h.2.2.2.1
  have hC : C.length = K.length := h.2.2.2.2.1
  obtain ⟨o, ho, hlen, hAll⟩ := lp_ex (step := fun s => runL mask R start K V B C s.1 s.2) (fun i (ts : List (Tf κ)) => (ts, (i : Int))) K.length
    (fun i ts => ts.length = i ∧ ∀ j, j < i → ∃ T, ts[j]? = some T ∧ J j T) (fun o => o.length = K.length ∧ ∀ j, j < K.length → ∃ T, o[j]? = some T ∧ J j T) (fun i ts hi hI => by
      obtain ⟨hlen, hAll⟩ := hI
      have node : ∃ T', nodeT mask R start B ts (i : Int) (K.getD i 0) (V.getD i 0) (C.getD i []) = some T' ∧ J i T' := by
        unfold nodeT
        have tsx : ∀ {j : Nat} {T : Tf κ} {β : Type} (q : Tf κ → Option β), ts[j]? = some T → idx ts (j : Int) q = q T := fun q h => idx_of (by omega) (by rw [Int.toNat_natCast]; exact h)
        cases h.node hi with
        | leaf hk hb hc => rw [if_pos hk]; exact ⟨_, rfl, leaf hi hk hb hc⟩
        | add hk j hj hc hv b1 b2 hb hbk =>
          obtain ⟨T, hTj, hT⟩ := hAll j hj
          obtain ⟨mb, hmb⟩ := hmask (h.bag (i := j) (by omega)).2
          obtain ⟨T', h1, h2⟩ := add hi hk hj hc hv hb hbk hT hmb
          refine ⟨T', ?_, h2⟩
          rw [if_neg (by omega), if_pos hk, hc]
          show idx ts (j : Int) _ = _
          rw [tsx _ hTj, getL_idx (by omega), cal_of hmb, h1]
        | drop hk j hj hc hv b1 b2 hbk hb =>
          obtain ⟨T, hTj, hT⟩ := hAll j hj
          obtain ⟨mb, hmb⟩ := hmask (h.bag hi).2
          obtain ⟨T', h1, h2⟩ := drop hi hk hj hc hv hbk hb hT hmb
          refine ⟨T', ?_, h2⟩
          rw [if_neg (by omega), if_neg (by omega), if_pos hk, hc]
          show idx ts (j : Int) _ = _
          rw [tsx _ hTj, getL_idx (by omega), cal_of hmb, h1]
        | meet hk j l hj hl hc hbk hbl =>
          obtain ⟨T, hTj, hT⟩ := hAll j hj
          obtain ⟨U, hUl, hU⟩ := hAll l hl
          obtain ⟨T', h1, h2⟩ := meet hi hk hj hl hc hbk hbl hT hU
          refine ⟨T', ?_, h2⟩
          rw [if_neg (by omega), if_neg (by omega), if_neg (by omega), if_pos hk, hc]
          show idx ts (j : Int) _ = _
          rw [tsx _ hTj]
          show idx ts (l : Int) _ = _
          rw [tsx _ hUl, h1]
      obtain ⟨T', hn, hTJ⟩ := node
      refine ⟨ts ++ [T'], ?_, by rw [List.length_append, hlen]; rfl, fun j hj => ?_⟩
      · simp only [runL]
        rw [if_pos (by omega), getD_idx hi, getD_idx (by omega), getL_idx (by omega), cal_of hn, app1_s (by omega), ck_of (inI (by omega) (by omega))]; rfl
      · by_cases e : j < i
        · obtain ⟨T, h1, h2⟩ := hAll j e
          exact ⟨T, by rw [List.getElem?_append_left (by omega)]; exact h1, h2⟩
        · have e2 : j = i := by omega
          subst e2
          exact ⟨T', by rw [← hlen, List.getElem?_append_right (Nat.le_refl _)]; simp, hTJ⟩)
    (fun ts hI => ⟨ts, by simp only [runL]; rw [if_neg (by omega)], hI⟩) K.length 0 [] (by omega) ⟨rfl, fun j hj => by omega⟩
  rw [show ((0 : Nat) : Int) = 0 from rfl] at ho
  obtain ⟨T, hT, hJ⟩ := hAll (K.length - 1) (by omega)
  refine ⟨T, ?_, hJ⟩
  unfold runF
  rw [cal_of ho, hlen, ck_of (inI (by omega) (by omega)), show (K.length : Int) - 1 = ((K.length - 1 : Nat) : Int) by omega, idx_of (by omega) (by rw [Int.toNat_natCast]; exact hT)]
end Go.Proofs.Ytnebbhginakaiaa

/- What may be ruled below each node, by how the bag stands: 0 nothing near has gone, 1 something near has, 2 chosen. -/
namespace Go.Proofs.Ytnebbhginakaiaa
open Classical in
noncomputable def addF (g : List (List Int)) (v : Int) (f : Nat → Nat) (x : Nat) : Nat := if f v.toNat = 2 ∧ (x : Int) ∈ g.getD v.toNat [] ∧ f x = 0 then 1 else 0
noncomputable def toF (g : List (List Int)) (v : Int) (f : Nat → Nat) : Nat → Nat := fun x => f x + addF g v f x
def flg (f : Nat → Nat) (v : Int) : Int := if f v.toNat = 2 then 1 else 0
section
variable {g : List (List Int)} {K V : List Int} {B C : List (List Int)}
def Rl (g : List (List Int)) (K V : List Int) (B C : List (List Int)) (i : Nat) : (Nat → Nat) → Int → Prop := fun f n =>
  if K.getD i 0 = 1 then n = 0
  else if K.getD i 0 = 2 then f (V.getD i 0).toNat ≠ 1 ∧ (if h : kidAt C i 0 < i then Rl g K V B C (kidAt C i 0) f n else False)
  else if K.getD i 0 = 3 then (if h : kidAt C i 0 < i then ∃ f' m, valid 3 (B.getD (kidAt C i 0) []) f' ∧ (f' (V.getD i 0).toNat = 0 → nearC g (B.getD i []) f' (V.getD i 0) 2) ∧ (∀ u ∈ B.getD i [], f u.toNat = toF g (V.getD i 0) f' u.toNat) ∧ Rl g K V B C (kidAt C i 0) f' m ∧ n = m + flg f' (V.getD i 0) else False)
  else if h : kidAt C i 0 < i ∧ kidAt C i 1 < i then ∃ p q m1 m2, valid 3 (B.getD i []) p ∧ valid 3 (B.getD i []) q ∧ (∀ u ∈ B.getD i [], (p u.toNat = 2 ↔ q u.toNat = 2) ∧ f u.toNat = max (p u.toNat) (q u.toNat)) ∧ Rl g K V B C (kidAt C i 0) p m1 ∧ Rl g K V B C (kidAt C i 1) q m2 ∧ n = m1 + m2 else False
termination_by i
decreasing_by all_goals first | exact h | exact h.1 | exact h.2
variable {i : Nat}
theorem Rl_leaf (hk : K.getD i 0 = 1) (f : Nat → Nat) (n : Int) : Rl g K V B C i f n ↔ n = 0 := by rw [Rl, if_pos hk]
theorem Rl_add (hk : K.getD i 0 = 2) {j : Nat} (hj : j < i) (hc : C.getD i [] = [(j : Int)]) (f : Nat → Nat) (n : Int) : Rl g K V B C i f n ↔ f (V.getD i 0).toNat ≠ 1 ∧ Rl g K V B C j f n := by
  rw [Rl, if_neg (by omega), if_pos hk, dif_pos (by rw [kidAt0 hc]; exact hj), kidAt0 hc]
theorem Rl_drop (hk : K.getD i 0 = 3) {j : Nat} (hj : j < i) (hc : C.getD i [] = [(j : Int)]) (f : Nat → Nat) (n : Int) :
    Rl g K V B C i f n ↔ ∃ f' m, valid 3 (B.getD j []) f' ∧ (f' (V.getD i 0).toNat = 0 → nearC g (B.getD i []) f' (V.getD i 0) 2) ∧ (∀ u ∈ B.getD i [], f u.toNat = toF g (V.getD i 0) f' u.toNat) ∧ Rl g K V B C j f' m ∧ n = m + flg f' (V.getD i 0) := by
  rw [Rl, if_neg (by omega), if_neg (by omega), if_pos hk, dif_pos (by rw [kidAt0 hc]; exact hj), kidAt0 hc]
theorem Rl_meet (hk : K.getD i 0 = 4) {j l : Nat} (hj : j < i) (hl : l < i) (hc : C.getD i [] = [(j : Int), (l : Int)]) (f : Nat → Nat) (n : Int) :
    Rl g K V B C i f n ↔ ∃ p q m1 m2, valid 3 (B.getD i []) p ∧ valid 3 (B.getD i []) q ∧ (∀ u ∈ B.getD i [], (p u.toNat = 2 ↔ q u.toNat = 2) ∧ f u.toNat = max (p u.toNat) (q u.toNat)) ∧ Rl g K V B C j p m1 ∧ Rl g K V B C l q m2 ∧ n = m1 + m2 := by
  rw [Rl, if_neg (by omega), if_neg (by omega), if_neg (by omega), dif_pos (by rw [kidAt0 hc, kidAt1 hc]; exact ⟨hj, hl⟩), kidAt0 hc, kidAt1 hc]
theorem Rl_congr (h : NiceIs g K V B C) : ∀ (i : Nat), i < K.length → ∀ {f f' : Nat → Nat} {n : Int}, (∀ v ∈ B.getD i [], f v.toNat = f' v.toNat) → Rl g K V B C i f n → Rl g K V B C i f' n := by
  intro i
  induction i using Nat.strongRecOn with
  | _ i ih =>
    intro hi f f' n hf hr
    cases h.node hi with
    | leaf hk hb hc => rw [Rl_leaf hk] at hr ⊢; exact hr
    | add hk j hj hc hv b1 b2 hb hbk =>
      have e : f (V.getD i 0).toNat = f' (V.getD i 0).toNat := hf _ (by rw [hb]; simp)
      rw [Rl_add hk hj hc] at hr ⊢
      exact ⟨by rw [← e]; exact hr.1, ih j hj (by omega) (by rw [hbk]; rw [hb] at hf; exact agree_less hf) hr.2⟩
    | drop hk j hj hc hv b1 b2 hbk hb =>
      rw [Rl_drop hk hj hc] at hr ⊢
      obtain ⟨f0, m, h1, h2, h3, h4, h5⟩ := hr
      exact ⟨f0, m, h1, h2, fun u hu => by rw [← hf u hu]; exact h3 u hu, h4, h5⟩
    | meet hk j l hj hl hc hbk hbl =>
      rw [Rl_meet hk hj hl hc] at hr ⊢
      obtain ⟨p, q, m1, m2, h1, h2, h3, h4⟩ := hr
      exact ⟨p, q, m1, m2, h1, h2, fun u hu => ⟨(h3 u hu).1, by rw [← hf u hu]; exact (h3 u hu).2⟩, h4⟩
theorem Rl_bound (h : NiceIs g K V B C) : ∀ (i : Nat), i < K.length → ∀ {f : Nat → Nat} {n : Int}, Rl g K V B C i f n → 0 ≤ n ∧ n ≤ ((dn K C i : Nat) : Int) := by
  intro i
  induction i using Nat.strongRecOn with
  | _ i ih =>
    intro hi f n hr
    cases h.node hi with
    | leaf hk hb hc => rw [Rl_leaf hk] at hr; subst hr; omega
    | add hk j hj hc hv b1 b2 hb hbk =>
      rw [Rl_add hk hj hc] at hr
      have := ih j hj (by omega) hr.2
      rw [dn_one hj hc, if_neg (show ¬ K.getD i 0 = 3 by omega), Nat.zero_add]; exact this
    | drop hk j hj hc hv b1 b2 hbk hb =>
      rw [Rl_drop hk hj hc] at hr
      obtain ⟨f0, m, h1, h2, h3, h4, h5⟩ := hr
      have := ih j hj (by omega) h4
      rw [dn_one hj hc, if_pos hk]
      unfold flg at h5
      split at h5 <;> omega
    | meet hk j l hj hl hc hbk hbl =>
      rw [Rl_meet hk hj hl hc] at hr
      obtain ⟨p, q, m1, m2, h1, h2, h3, h4, h5, h6⟩ := hr
      have := ih j hj (by omega) h4
      have := ih l hl (by omega) h5
      rw [dn_two hj hl hc, if_neg (show ¬ K.getD i 0 = 3 by omega)]; omega
theorem Rl_in (h : NiceIs g K V B C) (hi : i < K.length) {f : Nat → Nat} {n : Int} (hr : Rl g K V B C i f n) : 0 ≤ n ∧ n ≤ 16 := by
  have := Rl_bound h i hi hr
  have := h.dn_le hi
  omega
theorem Rl_all (h : NiceIs g K V B C) : ∀ (i : Nat), i < K.length → ∃ n, Rl g K V B C i (fun _ => 2) n := by
  intro i
  induction i using Nat.strongRecOn with
  | _ i ih =>
    intro hi
    cases h.node hi with
    | leaf hk hb hc => exact ⟨0, (Rl_leaf hk _ _).2 rfl⟩
    | add hk j hj hc hv b1 b2 hb hbk =>
      obtain ⟨n, hn⟩ := ih j hj (by omega)
      exact ⟨n, (Rl_add hk hj hc _ _).2 ⟨by decide, hn⟩⟩
    | drop hk j hj hc hv b1 b2 hbk hb =>
      obtain ⟨n, hn⟩ := ih j hj (by omega)
      refine ⟨_, (Rl_drop hk hj hc _ _).2 ⟨fun _ => 2, n, fun _ _ => (show 2 < 3 by decide), fun h => (by have h2 : (2 : Nat) = 0 := h; cases h2), fun u hu => ?_, hn, rfl⟩⟩
      unfold toF addF
      rw [if_neg (fun h => (by have h2 : (2 : Nat) = 0 := h.2.2; cases h2))]
    | meet hk j l hj hl hc hbk hbl =>
      obtain ⟨n, hn⟩ := ih j hj (by omega)
      obtain ⟨m, hm⟩ := ih l hl (by omega)
      exact ⟨_, (Rl_meet hk hj hl hc _ _).2 ⟨fun _ => 2, fun _ => 2, n, m, fun _ _ => (show 2 < 3 by decide), fun _ _ => (show 2 < 3 by decide), fun _ _ => ⟨Iff.rfl, rfl⟩, hn, hm, rfl⟩⟩
theorem toF_valid {v : Int} {b : List Int} {f : Nat → Nat} (hf : ∀ u ∈ b, f u.toNat < 3) : ∀ u ∈ b, toF g v f u.toNat < 3 := fun u hu => by
  have := hf u hu
  unfold toF addF
  split
  · rename_i h; omega
  · omega
end
/-! ## tables of the least -/
section
variable {κ : Type}
def Least (T : Tf κ) (P : κ → Int → Prop) : Prop := ∀ a, (∀ n, T a = some n → P a n ∧ ∀ m, P a m → n ≤ m) ∧ (T a = none → ∀ m, ¬ P a m)
theorem Least.le {T : Tf κ} {P : κ → Int → Prop} (h : Least T P) {a : κ} {m : Int} (hm : P a m) : ∃ n, T a = some n ∧ n ≤ m := by
  cases hT : T a with
  | none => exact absurd hm ((h a).2 hT m)
  | some n => exact ⟨n, rfl, ((h a).1 n hT).2 m hm⟩
theorem lst_no : lst (noT : Tf κ) = [] := List.perm_nil.1 ((lst_is (IsL.empty (κ := κ))).perm IsL.empty)
variable [DecidableEq κ]
theorem gat_least (a : κ) : ∀ (l : List (κ × Int)) (T : Tf κ), (∀ n, gatL min T l a = some n → (T a = some n ∨ (a, n) ∈ l) ∧ (∀ m, T a = some m → n ≤ m) ∧ ∀ m, (a, m) ∈ l → n ≤ m) ∧ (gatL min T l a = none → T a = none ∧ ∀ m, (a, m) ∉ l)
  | [], T => ⟨fun n hn => ⟨.inl hn, fun m hm => by rw [show gatL min T [] a = T a from rfl, hm] at hn; rw [Option.some.inj hn]; exact Int.le_refl _, fun m hm => by cases hm⟩, fun hn => ⟨hn, fun m hm => by cases hm⟩⟩
  | p :: l, T => by
    obtain ⟨h1, h2⟩ := gat_least a l (gatT min T p)
    have e : gatL min T (p :: l) a = gatL min (gatT min T p) l a := rfl
    rw [e]
    by_cases c : a = p.1
    · have eT : gatT min T p a = some (match T p.1 with | some o => min o p.2 | none => p.2) := if_pos c
      subst c
      refine ⟨fun n hn => ?_, fun hn => ?_⟩
      · obtain ⟨k1, k2, k3⟩ := h1 n hn
        have k4 := k2 _ eT
        cases hT : T p.1 with
        | none =>
          rw [hT] at eT k4
          simp only at eT k4
          refine ⟨.inr ?_, fun m hm => (by cases hm), fun m hm => ?_⟩
          · rcases k1 with k | k
            · rw [eT] at k; rw [← Option.some.inj k]; exact List.mem_cons_self ..
            · exact List.mem_cons_of_mem _ k
          · rcases List.mem_cons.1 hm with q | q
            · have : m = p.2 := congrArg Prod.snd q
              omega
            · exact k3 m q
        | some o =>
          rw [hT] at eT k4
          simp only at eT k4
          refine ⟨?_, fun m hm => (by have := Option.some.inj hm; omega), fun m hm => ?_⟩
          · rcases k1 with k | k
            · rw [eT] at k
              have k := Option.some.inj k
              by_cases c2 : o ≤ p.2
              · left; rw [← k, Int.min_eq_left c2]
              · right; rw [← k, Int.min_eq_right (by omega)]; exact List.mem_cons_self ..
            · exact .inr (List.mem_cons_of_mem _ k)
          · rcases List.mem_cons.1 hm with q | q
            · have : m = p.2 := congrArg Prod.snd q
              omega
            · exact k3 m q
      · have := (h2 hn).1
        rw [eT] at this; cases this
    · have eT : gatT min T p a = T a := if_neg c
      rw [eT] at h1 h2
      have hne : ∀ m, (a, m) = p → False := fun m h => c (congrArg Prod.fst h)
      refine ⟨fun n hn => ?_, fun hn => ⟨(h2 hn).1, fun m hm => ?_⟩⟩
      · obtain ⟨k1, k2, k3⟩ := h1 n hn
        exact ⟨k1.imp id (List.mem_cons_of_mem _), k2, fun m hm => (List.mem_cons.1 hm).elim (fun q => (hne m q).elim) (k3 m)⟩
      · exact (List.mem_cons.1 hm).elim (fun q => (hne m q).elim) ((h2 hn).2 m)
theorem gatF_least {R : Ru κ} (hR : R.pick = min) {T : Tf κ} (hT : finT T) {f : κ × Int → Option (List (κ × Int))} (g : κ × Int → List (κ × Int)) (hf : ∀ a n, T a = some n → f (a, n) = some (g (a, n))) {P : κ → Int → Prop}
    (h1 : ∀ a n b m, T a = some n → (b, m) ∈ g (a, n) → P b m) (h2 : ∀ b m, P b m → ∃ a n m', T a = some n ∧ (b, m') ∈ g (a, n) ∧ m' ≤ m) : ∃ T', gatF R T f = some T' ∧ finT T' ∧ Least T' P := by
  obtain ⟨l0, hl0⟩ := hT
  have hl := lst_is hl0
  have e : (lst T).flatMap (fun p => (f p).getD []) = (lst T).flatMap g := flatMap_same fun p hp => by rw [hf p.1 p.2 ((hl.mem p.1 p.2).2 hp)]; rfl
  refine ⟨_, by unfold gatF; rw [if_pos (fun a n h => by rw [hf a n h]; rfl)], gat_fin fin_no, fun b => ?_⟩
  rw [e, hR]
  obtain ⟨k1, k2⟩ := gat_least b ((lst T).flatMap g) noT
  have sound : ∀ m, (b, m) ∈ (lst T).flatMap g → P b m := fun m hm => by
    obtain ⟨p, hp, hm⟩ := List.mem_flatMap.1 hm
    exact h1 p.1 p.2 b m ((hl.mem _ _).2 hp) hm
  have comp : ∀ m, P b m → ∃ m', (b, m') ∈ (lst T).flatMap g ∧ m' ≤ m := fun m hm => by
    obtain ⟨a, n, m', h3, h4, h5⟩ := h2 b m hm
    exact ⟨m', List.mem_flatMap.2 ⟨(a, n), (hl.mem _ _).1 h3, h4⟩, h5⟩
  refine ⟨fun n hn => ?_, fun hn m hm => ?_⟩
  · obtain ⟨q1, q2, q3⟩ := k1 n hn
    refine ⟨sound n (q1.elim (fun h => by cases h) id), fun m hm => ?_⟩
    obtain ⟨m', h4, h5⟩ := comp m hm
    exact Int.le_trans (q3 m' h4) h5
  · obtain ⟨m', h4, _⟩ := comp m hm
    exact (k2 hn).2 m' h4
end
end Go.Proofs.Ytnebbhginakaiaa

/- What the run over tables finds: the least number of those that rule. -/
namespace Go.Proofs.Ytnebbhginakaiaa
open Classical in
noncomputable def mkp (b : List Int) (p : Int → Prop) : Nat := mk (b.filter fun v => decide (p v))
open Classical in
theorem mkp_bit (b : List Int) (p : Int → Prop) (j : Nat) : (mkp b p).testBit j = decide (∃ u ∈ b, p u ∧ u.toNat = j) := by
  unfold mkp
  rw [mk_bit, decide_eq_decide]
  constructor
  · rintro ⟨u, hu, rfl⟩
    rw [List.mem_filter] at hu
    exact ⟨u, hu.1, of_decide_eq_true hu.2, rfl⟩
  · rintro ⟨u, hu, h1, rfl⟩
    exact ⟨u, List.mem_filter.2 ⟨hu, decide_eq_true h1⟩, rfl⟩
open Classical in
theorem mkp_iff (b : List Int) (p : Int → Prop) (j : Nat) : (mkp b p).testBit j = true ↔ ∃ u ∈ b, p u ∧ u.toNat = j := by rw [mkp_bit, decide_eq_true_iff]
theorem mkp_no {b : List Int} {p : Int → Prop} {j : Nat} (h : ¬ ∃ u ∈ b, p u ∧ u.toNat = j) : (mkp b p).testBit j = false := by
  cases q : (mkp b p).testBit j with
  | false => rfl
  | true => exact absurd ((mkp_iff b p j).1 q) h
theorem mk_has (s : List Int) (j : Nat) : (mk s).testBit j = true ↔ ∃ v ∈ s, v.toNat = j := by rw [mk_bit, decide_eq_true_iff]
theorem mk_hasno {s : List Int} {j : Nat} (h : ¬ ∃ v ∈ s, v.toNat = j) : (mk s).testBit j = false := by
  cases q : (mk s).testBit j with
  | false => rfl
  | true => exact absurd ((mk_has s j).1 q) h
theorem mkp_lt {b : List Int} {n : Nat} (hb : Rises b n) (p : Int → Prop) : mkp b p < 2 ^ n := mk_lt fun v hv => by
  have := hb.mem (List.mem_filter.1 hv).1; omega
theorem mkp_32 {b : List Int} {n : Nat} (hn : n ≤ 16) (hb : Rises b n) (p : Int → Prop) : mkp b p < 2 ^ 32 := Nat.lt_of_lt_of_le (mkp_lt hb p) (Nat.pow_le_pow_right (by decide) (by omega))
theorem mkp_at {b : List Int} {n : Nat} (hb : Rises b n) {p : Int → Prop} {u : Int} (hu : u ∈ b) : (mkp b p).testBit u.toNat = true ↔ p u := by
  rw [mkp_iff]
  exact ⟨fun ⟨w, hw, h1, h2⟩ => by rw [← nat_inj hb hw hu h2]; exact h1, fun h => ⟨u, hu, h, rfl⟩⟩
theorem mkp_same {b : List Int} {n : Nat} (hb : Rises b n) {p p' : Int → Prop} : mkp b p = mkp b p' ↔ ∀ u ∈ b, (p u ↔ p' u) := by
  constructor
  · intro h u hu
    have e := mkp_at hb (p := p) hu
    have e' := mkp_at hb (p := p') hu
    rw [h] at e
    exact e.symm.trans e'
  · intro h
    refine bits_ext fun j => ?_
    rw [Bool.eq_iff_iff, mkp_iff, mkp_iff]
    exact ⟨fun ⟨u, hu, h1, h2⟩ => ⟨u, hu, (h u hu).1 h1, h2⟩, fun ⟨u, hu, h1, h2⟩ => ⟨u, hu, (h u hu).2 h1, h2⟩⟩
def ruled (g : List (List Int)) (b : List Int) (f : Nat → Nat) (u : Int) : Prop := f u.toNat ≠ 0 ∨ ∃ w ∈ b, w ∈ g.getD u.toNat [] ∧ f w.toNat = 2
noncomputable def keyW (g : List (List Int)) (b : List Int) (f : Nat → Nat) : BitVec 32 × BitVec 32 := (BitVec.ofNat 32 (mkp b fun u => f u.toNat = 2), BitVec.ofNat 32 (mkp b (ruled g b f)))
section
variable {g : List (List Int)}
theorem nb_sym (hg : GOk g) {u v : Int} (hu : 0 ≤ u ∧ u < g.length) (hv : 0 ≤ v ∧ v < g.length) (h : u ∈ g.getD v.toNat []) : v ∈ g.getD u.toNat [] := by
  rw [row_of hg hv.1 hv.2] at h
  have := hg.sym v.toNat (by omega) u h (by omega)
  rw [row_of hg hu.1 hu.2]
  rwa [show ((v.toNat : Nat) : Int) = v by omega] at this
theorem no_loop (hg : GOk g) {v : Int} (hv : 0 ≤ v ∧ v < g.length) : v ∉ g.getD v.toNat [] := by
  rw [row_of hg hv.1 hv.2]
  have := (hg.rows v.toNat (by omega)).2
  rwa [show ((v.toNat : Nat) : Int) = v by omega] at this
theorem keyW_congr {b : List Int} {f f' : Nat → Nat} (h : ∀ u ∈ b, f u.toNat = f' u.toNat) : keyW g b f = keyW g b f' := by
  unfold keyW
  have e1 : mkp b (fun u => f u.toNat = 2) = mkp b fun u => f' u.toNat = 2 := by
    refine bits_ext fun j => ?_
    rw [Bool.eq_iff_iff, mkp_iff, mkp_iff]
    exact ⟨fun ⟨u, hu, h1, h2⟩ => ⟨u, hu, by rw [← h u hu]; exact h1, h2⟩, fun ⟨u, hu, h1, h2⟩ => ⟨u, hu, by rw [h u hu]; exact h1, h2⟩⟩
  have e2 : mkp b (ruled g b f) = mkp b (ruled g b f') := by
    have key : ∀ u ∈ b, (ruled g b f u ↔ ruled g b f' u) := fun u hu => by
      unfold ruled
      rw [h u hu]
      exact ⟨fun k => k.imp id fun ⟨w, hw, k1, k2⟩ => ⟨w, hw, k1, by rw [← h w hw]; exact k2⟩, fun k => k.imp id fun ⟨w, hw, k1, k2⟩ => ⟨w, hw, k1, by rw [h w hw]; exact k2⟩⟩
    refine bits_ext fun j => ?_
    rw [Bool.eq_iff_iff, mkp_iff, mkp_iff]
    exact ⟨fun ⟨u, hu, h1, h2⟩ => ⟨u, hu, (key u hu).1 h1, h2⟩, fun ⟨u, hu, h1, h2⟩ => ⟨u, hu, (key u hu).2 h1, h2⟩⟩
  rw [e1, e2]
theorem mem_mid {b1 b2 : List Int} {v u : Int} : u ∈ b1 ++ v :: b2 ↔ u = v ∨ u ∈ b1 ++ b2 := by
  simp only [List.mem_append, List.mem_cons]
  exact ⟨fun h => by rcases h with h | h | h; exact .inr (.inl h); exact .inl h; exact .inr (.inr h), fun h => by rcases h with h | h | h; exact .inr (.inl h); exact .inl h; exact .inr (.inr h)⟩
theorem key_out (hg : GOk g) {b1 b2 : List Int} {v : Int} (hn : ∀ u ∈ b1 ++ b2, u.toNat ≠ v.toNat) (f : Nat → Nat) :
    mkp (b1 ++ v :: b2) (fun u => upd1 f v.toNat 0 u.toNat = 2) = mkp (b1 ++ b2) (fun u => f u.toNat = 2) ∧
    ((∃ w ∈ b1 ++ b2, w ∈ g.getD v.toNat [] ∧ f w.toNat = 2) → mkp (b1 ++ v :: b2) (ruled g (b1 ++ v :: b2) (upd1 f v.toNat 0)) = mkp (b1 ++ b2) (ruled g (b1 ++ b2) f) ||| 2 ^ v.toNat) ∧
    ((¬ ∃ w ∈ b1 ++ b2, w ∈ g.getD v.toNat [] ∧ f w.toNat = 2) → mkp (b1 ++ v :: b2) (ruled g (b1 ++ v :: b2) (upd1 f v.toNat 0)) = mkp (b1 ++ b2) (ruled g (b1 ++ b2) f)) := by
  have hoff : ∀ u ∈ b1 ++ b2, upd1 f v.toNat 0 u.toNat = f u.toNat := fun u hu => upd_off _ _ (hn u hu)
  have hat := upd_at f v.toNat 0
  have hnear : ∀ u : Int, (∃ w ∈ b1 ++ v :: b2, w ∈ g.getD u.toNat [] ∧ upd1 f v.toNat 0 w.toNat = 2) ↔ ∃ w ∈ b1 ++ b2, w ∈ g.getD u.toNat [] ∧ f w.toNat = 2 := fun u => by
    constructor
    · rintro ⟨w, hw, h1, h2⟩
      rcases mem_mid.1 hw with e | e
      · rw [e, hat] at h2; cases h2
      · exact ⟨w, e, h1, by rw [← hoff w e]; exact h2⟩
    · rintro ⟨w, hw, h1, h2⟩
      exact ⟨w, mem_mid.2 (.inr hw), h1, by rw [hoff w hw]; exact h2⟩
  have hr : ∀ u ∈ b1 ++ b2, (ruled g (b1 ++ v :: b2) (upd1 f v.toNat 0) u ↔ ruled g (b1 ++ b2) f u) := fun u hu => by
    unfold ruled; rw [hoff u hu, hnear u]
  have hrv : ruled g (b1 ++ v :: b2) (upd1 f v.toNat 0) v ↔ ∃ w ∈ b1 ++ b2, w ∈ g.getD v.toNat [] ∧ f w.toNat = 2 := by
    unfold ruled; rw [hat, hnear v]
    exact ⟨fun h => h.elim (fun h => absurd rfl h) id, .inr⟩
  refine ⟨?_, fun hN => ?_, fun hN => ?_⟩
  · refine bits_ext fun j => ?_
    rw [Bool.eq_iff_iff, mkp_iff, mkp_iff]
    constructor
    · rintro ⟨u, hu, h1, h2⟩
      rcases mem_mid.1 hu with e | e
      · rw [e, hat] at h1; cases h1
      · exact ⟨u, e, by rw [← hoff u e]; exact h1, h2⟩
    · rintro ⟨u, hu, h1, h2⟩
      exact ⟨u, mem_mid.2 (.inr hu), by rw [hoff u hu]; exact h1, h2⟩
  · refine bits_ext fun j => ?_
    rw [Bool.eq_iff_iff, Nat.testBit_or, Bool.or_eq_true, Nat.testBit_two_pow, decide_eq_true_iff, mkp_iff, mkp_iff]
    constructor
    · rintro ⟨u, hu, h1, h2⟩
      rcases mem_mid.1 hu with e | e
      · right; rw [← h2, e]
      · exact .inl ⟨u, e, (hr u e).1 h1, h2⟩
    · rintro (⟨u, hu, h1, h2⟩ | h)
      · exact ⟨u, mem_mid.2 (.inr hu), (hr u hu).2 h1, h2⟩
      · exact ⟨v, mem_mid.2 (.inl rfl), hrv.2 hN, h⟩
  · refine bits_ext fun j => ?_
    rw [Bool.eq_iff_iff, mkp_iff, mkp_iff]
    constructor
    · rintro ⟨u, hu, h1, h2⟩
      rcases mem_mid.1 hu with e | e
      · rw [e] at h1; exact absurd (hrv.1 h1) hN
      · exact ⟨u, e, (hr u e).1 h1, h2⟩
    · rintro ⟨u, hu, h1, h2⟩
      exact ⟨u, mem_mid.2 (.inr hu), (hr u hu).2 h1, h2⟩
theorem key_in (hg : GOk g) {b1 b2 : List Int} {v : Int} (hrk : Rises (b1 ++ b2) g.length) (hv : 0 ≤ v ∧ v < g.length) (hn : ∀ u ∈ b1 ++ b2, u.toNat ≠ v.toNat) (f : Nat → Nat) :
    mkp (b1 ++ v :: b2) (fun u => upd1 f v.toNat 2 u.toNat = 2) = mkp (b1 ++ b2) (fun u => f u.toNat = 2) ||| 2 ^ v.toNat ∧
    mkp (b1 ++ v :: b2) (ruled g (b1 ++ v :: b2) (upd1 f v.toNat 2)) = mkp (b1 ++ b2) (ruled g (b1 ++ b2) f) ||| ((mk (g.getD v.toNat []) &&& mk (b1 ++ b2)) ||| 2 ^ v.toNat) := by
  have hoff : ∀ u ∈ b1 ++ b2, upd1 f v.toNat 2 u.toNat = f u.toNat := fun u hu => upd_off _ _ (hn u hu)
  have hat := upd_at f v.toNat 2
  have hgr := hg.rows v.toNat (by omega)
  have hr : ∀ u ∈ b1 ++ b2, (ruled g (b1 ++ v :: b2) (upd1 f v.toNat 2) u ↔ ruled g (b1 ++ b2) f u ∨ u ∈ g.getD v.toNat []) := fun u hu => by
    have hub := hrk.mem hu
    unfold ruled; rw [hoff u hu]
    constructor
    · rintro (h | ⟨w, hw, h1, h2⟩)
      · exact .inl (.inl h)
      · rcases mem_mid.1 hw with e | e
        · rw [e] at h1; exact .inr (nb_sym hg hv ⟨hub.1, hub.2⟩ h1)
        · exact .inl (.inr ⟨w, e, h1, by rw [← hoff w e]; exact h2⟩)
    · rintro ((h | ⟨w, hw, h1, h2⟩) | h)
      · exact .inl h
      · exact .inr ⟨w, mem_mid.2 (.inr hw), h1, by rw [hoff w hw]; exact h2⟩
      · exact .inr ⟨v, mem_mid.2 (.inl rfl), nb_sym hg ⟨hub.1, hub.2⟩ hv h, hat⟩
  refine ⟨?_, ?_⟩
  · refine bits_ext fun j => ?_
    rw [Bool.eq_iff_iff, Nat.testBit_or, Bool.or_eq_true, Nat.testBit_two_pow, decide_eq_true_iff, mkp_iff, mkp_iff]
    constructor
    · rintro ⟨u, hu, h1, h2⟩
      rcases mem_mid.1 hu with e | e
      · right; rw [← h2, e]
      · exact .inl ⟨u, e, by rw [← hoff u e]; exact h1, h2⟩
    · rintro (⟨u, hu, h1, h2⟩ | h)
      · exact ⟨u, mem_mid.2 (.inr hu), by rw [hoff u hu]; exact h1, h2⟩
      · exact ⟨v, mem_mid.2 (.inl rfl), hat, h⟩
  · refine bits_ext fun j => ?_
    rw [Bool.eq_iff_iff, Nat.testBit_or, Nat.testBit_or, Nat.testBit_and, Nat.testBit_two_pow, Bool.or_eq_true, Bool.or_eq_true, Bool.and_eq_true, mkp_iff, mkp_iff, mk_has, mk_has, decide_eq_true_iff]
    constructor
    · rintro ⟨u, hu, h1, h2⟩
      rcases mem_mid.1 hu with e | e
      · right; right; rw [← h2, e]
      · rcases (hr u e).1 h1 with k | k
        · exact .inl ⟨u, e, k, h2⟩
        · exact .inr (.inl ⟨⟨u, k, h2⟩, u, e, h2⟩)
    · rintro (⟨u, hu, h1, h2⟩ | ⟨⟨u, hu, h1⟩, w, hw, h2⟩ | h)
      · exact ⟨u, mem_mid.2 (.inr hu), (hr u hu).2 (.inl h1), h2⟩
      · have hwb := hrk.mem hw
        have hu0 : 0 ≤ u := by
          rw [row_of hg hv.1 hv.2] at hu
          exact (hgr.1.mem hu).1
        have e : u = w := by omega
        subst e
        exact ⟨u, mem_mid.2 (.inr hw), (hr u hw).2 (.inr hu), h2⟩
      · refine ⟨v, mem_mid.2 (.inl rfl), .inl ?_, h⟩
        rw [hat]; decide
noncomputable abbrev rRu (g : List (List Int)) : Ru (BitVec 32 × BitVec 32) := rlRu (bvs (nb g))
theorem r_add (hg : GOk g) {b1 b2 : List Int} {v : Int} {f : Nat → Nat} {mb : BitVec 32} (hr : Rises (b1 ++ v :: b2) g.length) (hrk : Rises (b1 ++ b2) g.length) (hmb : F_impl_maskOf (b1 ++ b2) = some mb) :
    (rRu g).add (keyW g (b1 ++ b2) f) v mb = some [keyW g (b1 ++ v :: b2) (upd1 f v.toNat 0), keyW g (b1 ++ v :: b2) (upd1 f v.toNat 2)] := by
  have h16 := hg.n16
  have hv := hr.mem (x := v) (by simp)
  have hnd := nodup_split (rises_nodup h16 hr)
  have e0 : ((v.toNat : Nat) : Int) = v := by omega
  have hgr := hg.rows v.toNat (by omega)
  have hrow : (nb g)[v.toNat]'(by rw [nb_len]; omega) = mk (g.getD v.toNat []) := by rw [row_of hg hv.1 hv.2]; simp [nb]
  have hmbe : mb = BitVec.ofNat 32 (mk (b1 ++ b2)) := by
    have := maskOf_eq (s := b1 ++ b2) (fun x hx => by have := hrk.mem hx; omega) (by have := hrk.len16 h16; omega)
    rw [this] at hmb; exact (Option.some.inj hmb).symm
  have hidx : ∀ {β : Type} (q : BitVec 32 → Option β), idx (bvs (nb g)) v q = q (BitVec.ofNat 32 (mk (g.getD v.toNat []))) := fun q => by
    rw [show idx (bvs (nb g)) v q = idx (bvs (nb g)) ((v.toNat : Nat) : Int) q by rw [e0], idx_bvs (by rw [nb_len]; omega), hrow]
  have hone : F_impl_one v = some (BitVec.ofNat 32 (2 ^ v.toNat)) := by rw [show F_impl_one v = F_impl_one ((v.toNat : Nat) : Int) by rw [e0]]; exact one_eq (by omega)
  have hnear : (BitVec.ofNat 32 (mk (g.getD v.toNat [])) &&& BitVec.ofNat 32 (mkp (b1 ++ b2) fun u => f u.toNat = 2) ≠ 0#32) ↔ ∃ w ∈ b1 ++ b2, w ∈ g.getD v.toNat [] ∧ f w.toNat = 2 := by
    rw [bv_and, show (0#32 : BitVec 32) = BitVec.ofNat 32 0 from rfl, ne_eq, ofNat_inj32 (Nat.lt_of_le_of_lt Nat.and_le_right (mkp_32 h16 hrk _)) (by decide)]
    constructor
    · intro hne
      refine Classical.byContradiction fun hno => hne ?_
      refine bits_ext fun j => ?_
      rw [Nat.zero_testBit, Nat.testBit_and]
      by_cases c : ∃ u ∈ b1 ++ b2, f u.toNat = 2 ∧ u.toNat = j
      · obtain ⟨u, hu, h2, rfl⟩ := c
        have : ¬ ∃ w ∈ g.getD v.toNat [], w.toNat = u.toNat := fun ⟨w, hw, e⟩ => by
          have hw' := hw
          rw [row_of hg hv.1 hv.2] at hw'
          have h5 := hgr.1.mem hw'
          have h6 := hrk.mem hu
          have e3 : w = u := by omega
          subst e3
          exact hno ⟨w, hu, hw, h2⟩
        rw [mk_hasno this]; rfl
      · rw [mkp_no c]; simp
    · rintro ⟨u, hu, h2, h3⟩ e
      have := congrArg (fun m => Nat.testBit m u.toNat) e
      simp only [Nat.zero_testBit, Nat.testBit_and] at this
      rw [(mk_has _ _).2 ⟨u, h2, rfl⟩, (mkp_iff _ _ _).2 ⟨u, hu, h3, rfl⟩] at this
      cases this
  obtain ⟨o1, o2, o3⟩ := key_out hg hnd f
  obtain ⟨i1, i2⟩ := key_in hg hrk ⟨hv.1, hv.2⟩ hnd f
  show F_impl_RuleBy_2 (keyW g (b1 ++ b2) f).1 (keyW g (b1 ++ b2) f).2 v mb (bvs (nb g)) = _
  unfold F_impl_RuleBy_2 keyW
  simp only
  rw [hidx]
  by_cases c : ∃ w ∈ b1 ++ b2, w ∈ g.getD v.toNat [] ∧ f w.toNat = 2
  · rw [if_pos (hnear.2 c), cal_of hone, bnd_inl_eq]
    unfold F_impl_RuleBy_2_k1
    rw [cal_of hone, hidx, cal_of hone, o1, o2 c, i1, i2, hmbe, bv_and, BitVec.ofNat_or, BitVec.ofNat_or, BitVec.ofNat_or, BitVec.ofNat_or]
  · rw [if_neg (fun h => c (hnear.1 h)), bnd_inl_eq]
    unfold F_impl_RuleBy_2_k1
    rw [cal_of hone, hidx, cal_of hone, o1, o3 c, i1, i2, hmbe, bv_and, BitVec.ofNat_or, BitVec.ofNat_or, BitVec.ofNat_or]
theorem toF_two {v : Int} {f : Nat → Nat} (x : Nat) : toF g v f x = 2 ↔ f x = 2 := by
  unfold toF addF
  split
  · rename_i h; rw [h.2.2]; exact ⟨fun h => (by cases h), fun h => (by cases h)⟩
  · exact Iff.rfl
theorem r_drop (hg : GOk g) {b1 b2 : List Int} {v : Int} {f : Nat → Nat} {mb : BitVec 32} {n : Int} (hrk : Rises (b1 ++ v :: b2) g.length) :
    (ruled g (b1 ++ v :: b2) f v → (rRu g).drop (keyW g (b1 ++ v :: b2) f) v mb n = some (putT noT (keyW g (b1 ++ b2) (toF g v f)) (if f v.toNat = 2 then wr (n + 1) else n))) ∧
    (¬ ruled g (b1 ++ v :: b2) f v → (rRu g).drop (keyW g (b1 ++ v :: b2) f) v mb n = some noT) := by
  have h16 := hg.n16
  have hv := hrk.mem (x := v) (by simp)
  have hvm : v ∈ b1 ++ v :: b2 := by simp
  have hnd := nodup_split (rises_nodup h16 hrk)
  have e0 : ((v.toNat : Nat) : Int) = v := by omega
  have l1 := mkp_32 h16 hrk fun u => f u.toNat = 2
  have l2 := mkp_32 h16 hrk (ruled g (b1 ++ v :: b2) f)
  have hh : ∀ {m : Nat}, m < 2 ^ 32 → F_impl_vset_has (BitVec.ofNat 32 m) v = some (m.testBit v.toNat) := fun {m} hm => by
    rw [show F_impl_vset_has (BitVec.ofNat 32 m) v = F_impl_vset_has (BitVec.ofNat 32 m) ((v.toNat : Nat) : Int) by rw [e0]]; exact has_eq hm (by omega)
  have hone : F_impl_one v = some (BitVec.ofNat 32 (2 ^ v.toNat)) := by rw [show F_impl_one v = F_impl_one ((v.toNat : Nat) : Int) by rw [e0]]; exact one_eq (by omega)
  constructor
  · intro hR
    show rlDrop (keyW g (b1 ++ v :: b2) f) v n = _
    unfold rlDrop keyW
    simp only
    rw [cal_of (hh l2), (mkp_at hrk hvm).2 hR, if_neg (by simp), cal_of (hh l1), cal_of hone, bv_andn l1, bv_andn l2]
    have s1 : sdiff (mkp (b1 ++ v :: b2) fun u => f u.toNat = 2) (2 ^ v.toNat) = mkp (b1 ++ b2) fun u => toF g v f u.toNat = 2 := by
      refine bits_ext fun j => ?_
      rw [Bool.eq_iff_iff, sdiff_bit, Bool.and_eq_true, Nat.testBit_two_pow, Bool.not_eq_true', decide_eq_false_iff_not, mkp_iff, mkp_iff]
      constructor
      · rintro ⟨⟨u, hu, h1, h2⟩, c⟩
        rcases mem_mid.1 hu with e | e
        · rw [e] at h2; exact absurd h2 c
        · exact ⟨u, e, (toF_two _).2 h1, h2⟩
      · rintro ⟨u, hu, h1, h2⟩
        exact ⟨⟨u, mem_mid.2 (.inr hu), (toF_two _).1 h1, h2⟩, fun c => hnd u hu (by rw [h2, c])⟩
    have s2 : sdiff (mkp (b1 ++ v :: b2) (ruled g (b1 ++ v :: b2) f)) (2 ^ v.toNat) = mkp (b1 ++ b2) (ruled g (b1 ++ b2) (toF g v f)) := by
      have key : ∀ u ∈ b1 ++ b2, (ruled g (b1 ++ v :: b2) f u ↔ ruled g (b1 ++ b2) (toF g v f) u) := fun u hu => by
        have hub := hrk.mem (mem_mid.2 (.inr hu))
        have eu : ((u.toNat : Nat) : Int) = u := by omega
        unfold ruled
        constructor
        · rintro (h | ⟨w, hw, h1, h2⟩)
          · left; unfold toF; omega
          · rcases mem_mid.1 hw with e | e
            · subst e
              left
              have h3 := nb_sym hg ⟨hv.1, hv.2⟩ ⟨hub.1, hub.2⟩ h1
              unfold toF addF
              by_cases c : f u.toNat = 0
              · rw [if_pos ⟨h2, by rw [eu]; exact h3, c⟩]; omega
              · omega
            · exact .inr ⟨w, e, h1, (toF_two _).2 h2⟩
        · rintro (h | ⟨w, hw, h1, h2⟩)
          · unfold toF addF at h
            split at h
            · rename_i h4
              obtain ⟨k1, k2, _⟩ := h4
              rw [eu] at k2
              exact .inr ⟨v, hvm, nb_sym hg ⟨hub.1, hub.2⟩ ⟨hv.1, hv.2⟩ k2, k1⟩
            · exact .inl h
          · exact .inr ⟨w, mem_mid.2 (.inr hw), h1, (toF_two _).1 h2⟩
      refine bits_ext fun j => ?_
      rw [Bool.eq_iff_iff, sdiff_bit, Bool.and_eq_true, Nat.testBit_two_pow, Bool.not_eq_true', decide_eq_false_iff_not, mkp_iff, mkp_iff]
      constructor
      · rintro ⟨⟨u, hu, h1, h2⟩, c⟩
        rcases mem_mid.1 hu with e | e
        · rw [e] at h2; exact absurd h2 c
        · exact ⟨u, e, (key u e).1 h1, h2⟩
      · rintro ⟨u, hu, h1, h2⟩
        exact ⟨⟨u, mem_mid.2 (.inr hu), (key u hu).2 h1, h2⟩, fun c => hnd u hu (by rw [h2, c])⟩
    rw [s1, s2]
    congr 2
    by_cases c : f v.toNat = 2
    · rw [if_pos ((mkp_at hrk hvm).2 c), if_pos c]
    · rw [if_neg (fun h => c ((mkp_at hrk hvm).1 h)), if_neg c]
  · intro hR
    show rlDrop (keyW g (b1 ++ v :: b2) f) v n = _
    unfold rlDrop keyW
    simp only
    rw [cal_of (hh l2), if_pos (fun h => hR ((mkp_at hrk hvm).1 h))]
theorem r_meet {b : List Int} {n : Nat} (hr : Rises b n) (h16 : n ≤ 16) (p q : Nat → Nat) :
    ((keyW g b p).1 = (keyW g b q).1 ↔ ∀ u ∈ b, (p u.toNat = 2 ↔ q u.toNat = 2)) ∧
    ∀ f : Nat → Nat, (∀ u ∈ b, p u.toNat < 3) → (∀ u ∈ b, q u.toNat < 3) → (∀ u ∈ b, (p u.toNat = 2 ↔ q u.toNat = 2) ∧ f u.toNat = max (p u.toNat) (q u.toNat)) → keyW g b f = ((keyW g b p).1, (keyW g b p).2 ||| (keyW g b q).2) := by
  constructor
  · unfold keyW
    simp only
    rw [ofNat_inj32 (mkp_32 h16 hr _) (mkp_32 h16 hr _), mkp_same hr]
  · intro f hp hq hf
    have h2 : ∀ u ∈ b, (f u.toNat = 2 ↔ p u.toNat = 2) := fun u hu => by
      have := hf u hu; have := hp u hu; have := hq u hu
      by_cases c : p u.toNat = 2
      · have := (hf u hu).1.1 c; omega
      · have : ¬ q u.toNat = 2 := fun h => c ((hf u hu).1.2 h)
        omega
    unfold keyW
    simp only
    rw [← BitVec.ofNat_or]
    have e1 : mkp b (fun u => f u.toNat = 2) = mkp b fun u => p u.toNat = 2 := (mkp_same hr).2 h2
    have e2 : mkp b (ruled g b f) = mkp b (ruled g b p) ||| mkp b (ruled g b q) := by
      refine bits_ext fun j => ?_
      rw [Bool.eq_iff_iff, Nat.testBit_or, Bool.or_eq_true, mkp_iff, mkp_iff, mkp_iff]
      have hn : ∀ u : Int, (∃ w ∈ b, w ∈ g.getD u.toNat [] ∧ f w.toNat = 2) ↔ ∃ w ∈ b, w ∈ g.getD u.toNat [] ∧ p w.toNat = 2 := fun u => ⟨fun ⟨w, hw, h3, h4⟩ => ⟨w, hw, h3, (h2 w hw).1 h4⟩, fun ⟨w, hw, h3, h4⟩ => ⟨w, hw, h3, (h2 w hw).2 h4⟩⟩
      constructor
      · rintro ⟨u, hu, h3, h4⟩
        unfold ruled at h3
        rw [hn, (hf u hu).2] at h3
        rcases h3 with h | h
        · by_cases c : p u.toNat = 0
          · exact .inr ⟨u, hu, .inl (by omega), h4⟩
          · exact .inl ⟨u, hu, .inl c, h4⟩
        · exact .inl ⟨u, hu, .inr h, h4⟩
      · rintro (⟨u, hu, h3, h4⟩ | ⟨u, hu, h3, h4⟩)
        · refine ⟨u, hu, ?_, h4⟩
          unfold ruled
          rw [hn, (hf u hu).2]
          rcases h3 with h | h
          · left; omega
          · exact .inr h
        · refine ⟨u, hu, ?_, h4⟩
          unfold ruled
          rw [hn, (hf u hu).2]
          rcases h3 with h | ⟨w, hw, h5, h6⟩
          · left; omega
          · exact .inr ⟨w, hw, h5, (hf w hw).1.2 h6⟩
    rw [e1, e2]
end
section
variable {g : List (List Int)} {K V : List Int} {B C : List (List Int)}
def PR (g : List (List Int)) (K V : List Int) (B C : List (List Int)) (j : Nat) (a : BitVec 32 × BitVec 32) (n : Int) : Prop := ∃ f, valid 3 (B.getD j []) f ∧ keyW g (B.getD j []) f = a ∧ Rl g K V B C j f n
structure TR (g : List (List Int)) (K V : List Int) (B C : List (List Int)) (j : Nat) (T : Tf (BitVec 32 × BitVec 32)) : Prop where
  fin : finT T
  low : Least T (PR g K V B C j)
theorem nodeR_add (h : NiceIs g K V B C) {i j : Nat} {b1 b2 : List Int} {T : Tf (BitVec 32 × BitVec 32)} {mb : BitVec 32} (hi : i < K.length) (hk : K.getD i 0 = 2) (hj : j < i) (hc : C.getD i [] = [(j : Int)]) (hb : B.getD i [] = b1 ++ V.getD i 0 :: b2) (hbk : B.getD j [] = b1 ++ b2)
    (hT : TR g K V B C j T) (hmb : F_impl_maskOf (B.getD j []) = some mb) : ∃ T', gatF (rRu g) T (cAdd (rRu g) (V.getD i 0) mb) = some T' ∧ TR g K V B C i T' := by
  have hr := (h.bag hi).2
  have hrk := (h.bag (i := j) (by omega)).2
  have hnd := nodup_split (by rw [← hb]; exact h.nodup hi)
  have hlow := hT.low
  unfold PR at hlow
  rw [hb] at hr; rw [hbk] at hrk hmb hlow
  have hadd : ∀ (f : Nat → Nat) (n : Int), cAdd (rRu g) (V.getD i 0) mb (keyW g (b1 ++ b2) f, n) = some [(keyW g (b1 ++ V.getD i 0 :: b2) (upd1 f (V.getD i 0).toNat 0), n), (keyW g (b1 ++ V.getD i 0 :: b2) (upd1 f (V.getD i 0).toNat 2), n)] := fun f n => by
    unfold cAdd
    rw [r_add h.1 hr hrk hmb]; rfl
  have hG : ∀ a n, T a = some n → cAdd (rRu g) (V.getD i 0) mb (a, n) = some ((cAdd (rRu g) (V.getD i 0) mb (a, n)).getD []) := fun a n ha => by
    obtain ⟨f, _, rfl, _⟩ := ((hlow a).1 n ha).1
    rw [hadd]; rfl
  obtain ⟨T', h1, h2, h3⟩ := gatF_least (R := rRu g) rfl hT.fin (fun p => (cAdd (rRu g) (V.getD i 0) mb p).getD []) hG (P := PR g K V B C i)
    (fun a n b m ha hm => by
      obtain ⟨f, hf, rfl, hR⟩ := ((hlow a).1 n ha).1
      rw [hadd] at hm
      unfold PR
      rw [hb]
      have hmem : (b, m) = (keyW g (b1 ++ V.getD i 0 :: b2) (upd1 f (V.getD i 0).toNat 0), n) ∨ (b, m) = (keyW g (b1 ++ V.getD i 0 :: b2) (upd1 f (V.getD i 0).toNat 2), n) := by simpa using hm
      have one : ∀ c, c < 3 → c ≠ 1 → ∃ f', valid 3 (b1 ++ V.getD i 0 :: b2) f' ∧ keyW g (b1 ++ V.getD i 0 :: b2) f' = keyW g (b1 ++ V.getD i 0 :: b2) (upd1 f (V.getD i 0).toNat c) ∧ Rl g K V B C i f' n := fun c hc3 hc1 =>
        ⟨_, valid_more hf hc3, rfl, (Rl_add hk hj hc _ _).2 ⟨by rw [upd_at]; exact hc1, Rl_congr h j (by omega) (by rw [hbk]; exact fun u hu => (upd_off _ _ (hnd u hu)).symm) hR⟩⟩
      rcases hmem with e | e
      · rw [show b = _ from congrArg Prod.fst e, show m = n from congrArg Prod.snd e]; exact one 0 (by decide) (by decide)
      · rw [show b = _ from congrArg Prod.fst e, show m = n from congrArg Prod.snd e]; exact one 2 (by decide) (by decide))
    (fun b m hP => by
      unfold PR at hP
      rw [hb] at hP
      obtain ⟨f, hf, rfl, hR⟩ := hP
      obtain ⟨hv1, hRj⟩ := (Rl_add hk hj hc _ _).1 hR
      obtain ⟨n, hn, hnm⟩ := Least.le hlow (a := keyW g (b1 ++ b2) f) ⟨f, valid_less hf, rfl, hRj⟩
      refine ⟨_, n, n, hn, ?_, hnm⟩
      show _ ∈ (cAdd (rRu g) (V.getD i 0) mb (keyW g (b1 ++ b2) f, n)).getD []
      rw [hadd]
      have hfv := hf (V.getD i 0) (by simp)
      have e := upd_id f (V.getD i 0).toNat
      rcases (show f (V.getD i 0).toNat = 0 ∨ f (V.getD i 0).toNat = 2 by omega) with c | c
      · rw [c] at e; rw [e]; simp
      · rw [c] at e; rw [e]; simp)
  exact ⟨T', h1, h2, h3⟩
theorem nodeR_drop (h : NiceIs g K V B C) {i j : Nat} {b1 b2 : List Int} {T : Tf (BitVec 32 × BitVec 32)} {mb : BitVec 32} (hi : i < K.length) (hk : K.getD i 0 = 3) (hj : j < i) (hc : C.getD i [] = [(j : Int)]) (hbk : B.getD j [] = b1 ++ V.getD i 0 :: b2) (hb : B.getD i [] = b1 ++ b2)
    (hT : TR g K V B C j T) : ∃ T', gatF (rRu g) T (cDrop (rRu g) (V.getD i 0) mb) = some T' ∧ TR g K V B C i T' := by
  have hrk := (h.bag (i := j) (by omega)).2
  have hnd := nodup_split (by rw [← hbk]; exact h.nodup (i := j) (by omega))
  have hlow := hT.low
  unfold PR at hlow
  rw [hbk] at hrk hlow
  have hv := hrk.mem (x := V.getD i 0) (by simp)
  -- ruled there, told as the reference tells it
  have hruled : ∀ {f : Nat → Nat}, ruled g (b1 ++ V.getD i 0 :: b2) f (V.getD i 0) ↔ (f (V.getD i 0).toNat = 0 → nearC g (b1 ++ b2) f (V.getD i 0) 2) := fun {f} => by
    unfold ruled nearC
    constructor
    · rintro (hh | ⟨w, hw, h1, h2⟩) h0
      · exact absurd h0 hh
      · rcases mem_mid.1 hw with e | e
        · rw [e] at h1; exact absurd h1 (no_loop h.1 ⟨hv.1, hv.2⟩)
        · exact ⟨w, e, h1, h2⟩
    · intro hh
      by_cases c : f (V.getD i 0).toNat = 0
      · obtain ⟨w, hw, h1, h2⟩ := hh c
        exact .inr ⟨w, mem_mid.2 (.inr hw), h1, h2⟩
      · exact .inl c
  have hdrop : ∀ {f : Nat → Nat} {n : Int}, 0 ≤ n ∧ n ≤ 16 → (ruled g (b1 ++ V.getD i 0 :: b2) f (V.getD i 0) → cDrop (rRu g) (V.getD i 0) mb (keyW g (b1 ++ V.getD i 0 :: b2) f, n) = some [(keyW g (b1 ++ b2) (toF g (V.getD i 0) f), n + flg f (V.getD i 0))]) ∧
      (¬ ruled g (b1 ++ V.getD i 0 :: b2) f (V.getD i 0) → cDrop (rRu g) (V.getD i 0) mb (keyW g (b1 ++ V.getD i 0 :: b2) f, n) = some []) := fun {f n} hn => by
    obtain ⟨d1, d2⟩ := r_drop (f := f) (mb := mb) (n := n) h.1 hrk
    constructor
    · intro hh
      unfold cDrop
      rw [d1 hh, Option.map_some, lst_put]
      congr 3
      unfold flg
      split
      · rw [wr_of (inI (by omega) (by omega))]
      · omega
    · intro hh
      unfold cDrop
      rw [d2 hh, Option.map_some, lst_no]
  have hin : ∀ {a n}, T a = some n → 0 ≤ n ∧ n ≤ 16 := fun {a n} ha => by
    obtain ⟨f, _, _, hR⟩ := ((hlow a).1 n ha).1
    exact Rl_in h (by omega) hR
  have hG : ∀ a n, T a = some n → cDrop (rRu g) (V.getD i 0) mb (a, n) = some ((cDrop (rRu g) (V.getD i 0) mb (a, n)).getD []) := fun a n ha => by
    have hn := hin ha
    obtain ⟨f, _, rfl, _⟩ := ((hlow a).1 n ha).1
    by_cases c : ruled g (b1 ++ V.getD i 0 :: b2) f (V.getD i 0)
    · rw [(hdrop hn).1 c]; rfl
    · rw [(hdrop hn).2 c]; rfl
  obtain ⟨T', h1, h2, h3⟩ := gatF_least (R := rRu g) rfl hT.fin (fun p => (cDrop (rRu g) (V.getD i 0) mb p).getD []) hG (P := PR g K V B C i)
    (fun a n b m ha hm => by
      have hn := hin ha
      obtain ⟨f, hf, rfl, hR⟩ := ((hlow a).1 n ha).1
      by_cases c : ruled g (b1 ++ V.getD i 0 :: b2) f (V.getD i 0)
      · rw [(hdrop hn).1 c] at hm
        have e : (b, m) = (keyW g (b1 ++ b2) (toF g (V.getD i 0) f), n + flg f (V.getD i 0)) := by simpa using hm
        refine ⟨toF g (V.getD i 0) f, ?_, ?_, ?_⟩
        · rw [hb]; exact toF_valid (valid_less hf)
        · rw [hb]; exact (congrArg Prod.fst e).symm
        · rw [show m = n + flg f (V.getD i 0) from congrArg Prod.snd e]
          exact (Rl_drop hk hj hc _ _).2 ⟨f, n, by rw [hbk]; exact hf, by rw [hb]; exact hruled.1 c, fun _ _ => rfl, hR, rfl⟩
      · rw [(hdrop hn).2 c] at hm; cases hm)
    (fun b m hP => by
      obtain ⟨f, hf, e, hR⟩ := hP
      obtain ⟨f', m0, k1, k2, k3, k4, k5⟩ := (Rl_drop hk hj hc _ _).1 hR
      rw [hbk] at k1; rw [hb] at k2 k3 e
      obtain ⟨n, hn, hnm⟩ := Least.le hlow (a := keyW g (b1 ++ V.getD i 0 :: b2) f') ⟨f', k1, rfl, k4⟩
      refine ⟨_, n, n + flg f' (V.getD i 0), hn, ?_, by omega⟩
      show _ ∈ (cDrop (rRu g) (V.getD i 0) mb (keyW g (b1 ++ V.getD i 0 :: b2) f', n)).getD []
      rw [(hdrop (hin hn)).1 (hruled.2 k2), ← e, keyW_congr k3]
      simp)
  exact ⟨T', h1, h2, h3⟩
theorem nodeR_meet (h : NiceIs g K V B C) {i j l : Nat} {T U : Tf (BitVec 32 × BitVec 32)} (hi : i < K.length) (hk : K.getD i 0 = 4) (hj : j < i) (hl : l < i) (hc : C.getD i [] = [(j : Int), (l : Int)]) (hbk : B.getD j [] = B.getD i []) (hbl : B.getD l [] = B.getD i [])
    (hT : TR g K V B C j T) (hU : TR g K V B C l U) : ∃ T', gatF (rRu g) T (cMeet (rRu g) U) = some T' ∧ TR g K V B C i T' := by
  have h16 := h.1.n16
  have hr := (h.bag hi).2
  have hlU := lst_is (hU.fin.choose_spec)
  have hlow := hT.low
  have hlow2 := hU.low
  unfold PR at hlow hlow2
  rw [hbk] at hlow; rw [hbl] at hlow2
  have hone : ∀ (p q : (BitVec 32 × BitVec 32) × Int), cMeet1 (rRu g) p q = if p.1.1 = q.1.1 then [((p.1.1, p.1.2 ||| q.1.2), wr (p.2 + q.2))] else [] := fun p q => by
    unfold cMeet1
    show (if decide (p.1.1 = q.1.1) = true then _ else _) = _
    by_cases c : p.1.1 = q.1.1
    · rw [if_pos (decide_eq_true c), if_pos c]; rfl
    · rw [if_neg (by simp [c]), if_neg c]
  obtain ⟨T', h1, h2, h3⟩ := gatF_least (R := rRu g) rfl hT.fin (f := cMeet (rRu g) U) (fun p => (lst U).flatMap (cMeet1 (rRu g) p)) (fun a n _ => rfl) (P := PR g K V B C i)
    (fun a n b m ha hm => by
      obtain ⟨p, hp, rfl, hRp⟩ := ((hlow a).1 n ha).1
      obtain ⟨x, hx, hm⟩ := List.mem_flatMap.1 hm
      have hxU := (hlU.mem x.1 x.2).2 hx
      obtain ⟨q, hq, hxe, hRq⟩ := ((hlow2 x.1).1 x.2 hxU).1
      rw [hone, ← hxe] at hm
      obtain ⟨m1, m2⟩ := r_meet (g := g) hr h16 p q
      split at hm
      · rename_i c
        have e : (b, m) = (((keyW g (B.getD i []) p).1, (keyW g (B.getD i []) p).2 ||| (keyW g (B.getD i []) q).2), wr (n + x.2)) := by simpa using hm
        have c2 := m1.1 c
        have n1 := Rl_in h (by omega) hRp
        have n2 := Rl_in h (by omega) hRq
        have hff : ∀ u ∈ B.getD i [], (p u.toNat = 2 ↔ q u.toNat = 2) ∧ (fun x => max (p x) (q x)) u.toNat = max (p u.toNat) (q u.toNat) := fun u hu => ⟨c2 u hu, rfl⟩
        refine ⟨fun x => max (p x) (q x), fun u hu => ?_, ?_, ?_⟩
        · have := hp u hu; have := hq u hu
          show max _ _ < 3
          omega
        · rw [m2 _ hp hq hff]; exact (congrArg Prod.fst e).symm
        · rw [show m = n + x.2 by rw [show m = _ from congrArg Prod.snd e, wr_of (inI (by omega) (by omega))]]
          exact (Rl_meet hk hj hl hc _ _).2 ⟨p, q, n, x.2, hp, hq, hff, hRp, hRq, rfl⟩
      · cases hm)
    (fun b m hP => by
      obtain ⟨f, hf, e, hR⟩ := hP
      obtain ⟨p, q, a1, a2, k1, k2, k3, k4, k5, k6⟩ := (Rl_meet hk hj hl hc _ _).1 hR
      obtain ⟨n1, hn1, hl1⟩ := Least.le hlow (a := keyW g (B.getD i []) p) ⟨p, k1, rfl, k4⟩
      obtain ⟨n2, hn2, hl2⟩ := Least.le hlow2 (a := keyW g (B.getD i []) q) ⟨q, k2, rfl, k5⟩
      obtain ⟨m1, m2⟩ := r_meet (g := g) hr h16 p q
      have b1 : 0 ≤ n1 ∧ n1 ≤ 16 := by obtain ⟨f0, _, _, hR⟩ := ((hlow _).1 n1 hn1).1; exact Rl_in h (by omega) hR
      have b2 : 0 ≤ n2 ∧ n2 ≤ 16 := by obtain ⟨f0, _, _, hR⟩ := ((hlow2 _).1 n2 hn2).1; exact Rl_in h (by omega) hR
      refine ⟨_, n1, n1 + n2, hn1, List.mem_flatMap.2 ⟨(keyW g (B.getD i []) q, n2), (hlU.mem _ _).1 hn2, ?_⟩, by omega⟩
      rw [hone, if_pos (m1.2 fun u hu => (k3 u hu).1), ← e, m2 f k1 k2 k3, wr_of (inI (by omega) (by omega))]
      simp)
  exact ⟨T', h1, h2, h3⟩
theorem runR_eq (h : NiceIs g K V B C) : ∃ T, runF F_impl_maskOf (rRu g) (putT noT (0#32, 0#32) 0) K V B C = some T ∧ ∃ n, T (0#32, 0#32) = some n ∧ Rl g K V B C (K.length - 1) (fun _ => 0) n ∧ ∀ m, Rl g K V B C (K.length - 1) (fun _ => 0) m → n ≤ m := by
  have h16 := h.1.n16
  have hm := h.2.1
  have key0 : ∀ f, keyW g [] f = (0#32, 0#32) := fun f => rfl
  obtain ⟨T, h1, h2⟩ := run_frame (R := rRu g) (start := putT noT (0#32, 0#32) 0) h (fun {b} hb => ⟨_, maskOf_eq (fun v hv => by have := hb.mem hv; omega) (by have := hb.len16 h16; omega)⟩) (TR g K V B C)
    (fun {i} hi hk hb hc => by
      refine ⟨put_fin fin_no _ _, fun a => ⟨fun n hn => ?_, fun hn m hm => ?_⟩⟩
      · unfold putT at hn
        split at hn
        · rename_i e
          obtain rfl := Option.some.inj hn
          refine ⟨⟨fun _ => 0, (by rw [hb]; exact fun v hv => nomatch hv), by rw [hb, key0, e], (Rl_leaf hk _ _).2 rfl⟩, fun m hm => ?_⟩
          obtain ⟨f, _, _, hR⟩ := hm
          rw [Rl_leaf hk] at hR; omega
        · cases hn
      · obtain ⟨f, _, e, hR⟩ := hm
        rw [hb, key0] at e
        unfold putT at hn
        rw [if_pos e.symm] at hn; cases hn)
    (fun hi hk hj hc hv hb hbk hT hmb => nodeR_add h hi hk hj hc hb hbk hT hmb)
    (fun hi hk hj hc hv hbk hb hT hmb => nodeR_drop h hi hk hj hc hbk hb hT)
    (fun hi hk hj hl hc hbk hbl hT hU => nodeR_meet h hi hk hj hl hc hbk hbl hT hU)
  refine ⟨T, h1, ?_⟩
  have hl := h.last
  have all : ∀ {f f' : Nat → Nat} {n : Int}, Rl g K V B C (K.length - 1) f n → Rl g K V B C (K.length - 1) f' n := fun hR => Rl_congr h _ (by omega) (by rw [hl]; exact fun v hv => nomatch hv) hR
  have hP : ∀ {f : Nat → Nat} {n : Int}, Rl g K V B C (K.length - 1) f n → PR g K V B C (K.length - 1) (0#32, 0#32) n := fun {f n} hR => ⟨f, (by rw [hl]; exact fun v hv => nomatch hv), by rw [hl, key0], hR⟩
  obtain ⟨n0, hn0⟩ := Rl_all h (K.length - 1) (by omega)
  obtain ⟨n, hn, _⟩ := Least.le h2.low (hP hn0)
  obtain ⟨⟨f, _, _, hR⟩, hmin⟩ := (h2.low _).1 n hn
  exact ⟨n, hn, all hR, fun m hm => hmin m (hP hm)⟩
end
end Go.Proofs.Ytnebbhginakaiaa

/- Dice, and graphs made edge by edge: what they give, in plain Lean. -/
namespace Go.Proofs.Ytnebbhginakaiaa
structure Has (g : List (List Int)) (n : Nat) (E : Nat → Nat → Prop) : Prop where
  len : g.length = n
  srt : ∀ v (h : v < g.length), g[v].Pairwise (· < ·)
  mem : ∀ v (h : v < g.length) (y : Int), y ∈ g[v] ↔ ∃ u : Nat, y = u ∧ E v u
  rng : ∀ u v, E u v → u < n ∧ v < n ∧ u ≠ v ∧ E v u
theorem rises_of {s : List Int} {n : Nat} (hs : s.Pairwise (· < ·)) (hm : ∀ y ∈ s, 0 ≤ y ∧ y < n) : Rises s n := fun k hk => by
  have := hm _ (List.getElem_mem hk)
  refine ⟨this.1, by omega, fun h => ?_⟩
  exact List.pairwise_iff_getElem.1 hs (k - 1) k (by omega) hk (by omega)
theorem Has.row {g : List (List Int)} {n : Nat} {E : Nat → Nat → Prop} (h : Has g n E) {v : Nat} (hv : v < g.length) : Rises g[v] n :=
  rises_of (h.srt v hv) fun y hy => by
    obtain ⟨u, rfl, hu⟩ := (h.mem v hv y).1 hy
    have := h.rng _ _ hu
    omega
theorem Has.congr {g : List (List Int)} {n : Nat} {E E' : Nat → Nat → Prop} (h : Has g n E) (he : ∀ a b, E a b ↔ E' a b) : Has g n E' :=
  ⟨h.len, h.srt, fun v hv y => by rw [h.mem v hv y]; exact ⟨fun ⟨u, e, q⟩ => ⟨u, e, (he _ _).1 q⟩, fun ⟨u, e, q⟩ => ⟨u, e, (he _ _).2 q⟩⟩, fun u v huv => by
    have := h.rng u v ((he _ _).2 huv); exact ⟨this.1, this.2.1, this.2.2.1, (he _ _).1 this.2.2.2⟩⟩
theorem Has.eq {g g' : List (List Int)} {n : Nat} {E : Nat → Nat → Prop} (h : Has g n E) (h' : Has g' n E) : g = g' := by
  refine List.ext_getElem (by rw [h.len, h'.len]) fun v h1 h2 => ?_
  refine List.Perm.eq_of_pairwise (le := (· < ·)) (fun a b _ _ _ _ => by omega) (h.srt v h1) (h'.srt v h2) ?_
  refine (List.perm_ext_iff_of_nodup ((h.srt v h1).imp fun h => by omega) ((h'.srt v h2).imp fun h => by omega)).2 fun y => ?_
  rw [h.mem v h1, h'.mem v h2]
end Go.Proofs.Ytnebbhginakaiaa

/- The search for a colouring with few colours: the reference's, vertex by vertex, and the code's, class by class. -/
namespace Go.Proofs.Ytnebbhginakaiaa
section
variable {S O β : Type}
end
def cls (p : List Nat) (c : Nat) : Nat := mk (ints ((List.range p.length).filter fun u => decide (p[u]? = some c)))
def fits (a : List Nat) (p : List Nat) (c : Nat) : Bool := cls p c &&& a.getD p.length 0 == 0
def search (a : List Nat) (k : Nat) : Nat → List Nat → Nat → Option (List Nat)
  | 0, p, _ => some p
  | m + 1, p, u => (List.range (min (u + 1) k)).findSome? fun c => if fits a p c = true then search a k m (p ++ [c]) (max u (c + 1)) else none
end Go.Proofs.Ytnebbhginakaiaa

/- Right colourings: the search finds one where there is one; a graph without one of its vertices. -/
namespace Go.Proofs.Ytnebbhginakaiaa
def swap (x y c : Nat) : Nat := if c = x then y else if c = y then x else c
def past (v j : Nat) : Nat := if j < v then j else j + 1
def others (n v : Nat) : List Nat := (List.range (n - 1)).map (past v)
end Go.Proofs.Ytnebbhginakaiaa

/- Graphs with an edge or a vertex less. -/
namespace Go.Proofs.Ytnebbhginakaiaa
theorem Has.bit {g : List (List Int)} {n : Nat} {E : Nat → Nat → Prop} (h : Has g n E) {u v : Nat} (hu : u < n) : ((nb g).getD u 0).testBit v = true ↔ E u v := by
  have hl := h.len
  rw [nb_getD (show u < g.length by omega), mk_bit, decide_eq_true_iff]
  constructor
  · rintro ⟨y, hy, rfl⟩
    obtain ⟨w, rfl, hw⟩ := (h.mem u (by omega) y).1 hy
    simpa using hw
  · exact fun he => ⟨v, (h.mem u (by omega) _).2 ⟨v, rfl, he⟩, by simp⟩
def Ed (g : List (List Int)) (u v : Nat) : Prop := u < g.length ∧ ((nb g).getD u 0).testBit v = true
theorem GOk.has {g : List (List Int)} (hg : GOk g) : Has g g.length (Ed g) := by
  have mem : ∀ v (h : v < g.length) (y : Int), y ∈ g[v] ↔ ∃ u : Nat, y = u ∧ Ed g v u := fun v hv y => by
    unfold Ed
    rw [nb_getD hv]
    constructor
    · intro hy
      have hr := hg.row_mem hv hy
      exact ⟨y.toNat, by omega, hv, by rw [mk_bit, decide_eq_true_iff]; exact ⟨y, hy, rfl⟩⟩
    · rintro ⟨u, rfl, _, hu⟩
      rw [mk_bit, decide_eq_true_iff] at hu
      obtain ⟨w, hw, e⟩ := hu
      have := hg.row_mem hv hw
      rwa [show (u : Int) = w by omega]
  refine ⟨rfl, fun v hv => ?_, mem, fun u v huv => ?_⟩
  · rw [row_els hg hv, ints]
    exact List.Pairwise.map _ (fun a b h => by omega) (els_sorted _)
  · have hm := (mem u huv.1 v).2 ⟨v, rfl, huv⟩
    have hr := hg.row_mem huv.1 hm
    have hv : v < g.length := by omega
    refine ⟨huv.1, hv, fun e => ?_, ?_⟩
    · subst e; exact (hg.rows u huv.1).2 hm
    · have := hg.sym u huv.1 v hm (by omega)
      simp only [Int.toNat_natCast] at this
      obtain ⟨w, e, hw⟩ := (mem v hv u).1 this
      rwa [show u = w by omega]
theorem l2Without_eq {l : List Int} (x : Int) (hl : l.length ≤ 1048576) : F_spec_l2Without l x = some (l.filter fun y => decide (y ≠ x)) := by
  unfold F_spec_l2Without
  have : lp (fun s => F_spec_l2Without_l1 l x s.1 s.2) (([] : List Int), 0) = some (.inl (l.filter fun y => decide (y ≠ x))) := by
    refine lp_upto (fun k => ((l.take k).filter fun y => decide (y ≠ x), (k : Int))) l.length (by simp) (fun k hk => ?_) ?_
    · simp only [F_spec_l2Without_l1]
      have h1 : ((l.take k).filter fun y => decide (y ≠ x)).length ≤ k := Nat.le_trans (List.length_filter_le ..) (by rw [List.length_take]; omega)
      rw [if_pos (by omega), idx_nat hk, filter_take_snoc hk]
      by_cases h : l[k] ≠ x
      · rw [if_pos h, idx_nat hk, app1_s (by omega), ck_of (inI (by omega) (by omega)), if_pos (by simpa using h)]; rfl
      · rw [if_neg h, ck_of (inI (by omega) (by omega)), if_neg (by simpa using h), List.append_nil]; rfl
    · simp only [F_spec_l2Without_l1]
      rw [if_neg (by omega), List.take_length]
  rw [bnd_l this]; rfl
theorem Has.small {g : List (List Int)} {n : Nat} {E : Nat → Nat → Prop} (h : Has g n E) (h16 : n ≤ 16) : g.length ≤ 1048576 ∧ ∀ x ∈ g, x.length ≤ 16 := by
  have hl := h.len
  refine ⟨by omega, fun x hx => ?_⟩
  obtain ⟨v, hv, rfl⟩ := List.getElem_of_mem hx
  have := (h.row hv).len (by omega); omega
end Go.Proofs.Ytnebbhginakaiaa

/- The reference's rows: the least number of those that rule. -/
namespace Go.Proofs.Ytnebbhginakaiaa
structure IsV (x : Int) (S : Int → Prop) : Prop where
  lo : 0 ≤ x
  hi : x ≤ 1000
  le : ∀ n, S n → x ≤ n
  or : x = 1000 ∨ S x
theorem IsV.none {S : Int → Prop} (h : ∀ n, ¬ S n) : IsV 1000 S := ⟨by decide, Int.le_refl _, fun n hn => absurd hn (h n), .inl rfl⟩
theorem IsV.min {x y : Int} {S : Int → Prop} (h : IsV x S) (hy : 0 ≤ y) {S' : Int → Prop} (hS : ∀ n, S' n ↔ S n ∨ n = y) : IsV (min x y) S' := by
  have h1 := h.lo; have h2 := h.hi
  refine ⟨by omega, by omega, fun n hn => ?_, ?_⟩
  · rcases (hS n).1 hn with k | k
    · have := h.le n k; omega
    · omega
  · by_cases c : x ≤ y
    · rw [Int.min_eq_left c]; exact h.or.imp id fun k => (hS _).2 (.inl k)
    · rw [Int.min_eq_right (by omega)]; exact .inr ((hS _).2 (.inr rfl))
theorem IsV.iff {x : Int} {S S' : Int → Prop} (h : IsV x S) (hS : ∀ n, S' n ↔ S n) : IsV x S' := ⟨h.lo, h.hi, fun n hn => h.le n ((hS n).1 hn), h.or.imp id (hS x).2⟩
theorem l1Min_w (x y : Int) : F_spec_l1Min x y = some (min x y) := by
  unfold F_spec_l1Min
  split <;> (congr 1; omega)
theorem l1Max_n (x y : Nat) : F_spec_l1Max (x : Int) (y : Int) = some ((max x y : Nat) : Int) := by
  unfold F_spec_l1Max
  split <;> (congr 1; omega)
theorem flag_eq (f : Nat → Nat) (v : Int) {x : Int} (hx : x = ((f v.toNat : Nat) : Int)) : F_spec_l1Flag (decide (x = 2)) = some (flg f v) := by
  unfold F_spec_l1Flag flg
  by_cases c : f v.toNat = 2
  · rw [if_pos (decide_eq_true (show x = 2 by omega)), if_pos c]
  · rw [if_neg (by simp; omega), if_neg c]
theorem first_bad {P : Nat → Prop} : ∀ {n : Nat}, (¬ ∀ k, k < n → P k) → ∃ m, m < n ∧ ¬ P m ∧ ∀ t, t < m → P t
  | 0, h => absurd (fun k hk => by omega) h
  | n + 1, h => by
    by_cases c : ∀ k, k < n → P k
    · refine ⟨n, by omega, fun hp => h fun k hk => ?_, c⟩
      by_cases e : k = n
      · rw [e]; exact hp
      · exact c k (by omega)
    · obtain ⟨m, h1, h2, h3⟩ := first_bad c
      exact ⟨m, by omega, h2, h3⟩
theorem cod_take {k : Nat} {b : List Int} {j : Nat} (hj : j < b.length) (f : Nat → Nat) : cod k (b.take (j + 1)) f = cod k (b.take j) f + k ^ j * f (b[j]).toNat := by
  rw [List.take_succ_eq_append_getElem hj, cod_append, List.length_take, Nat.min_eq_left (by omega), cod_cons]
  simp [cod]
theorem digit3 {b : List Int} {f : Nat → Nat} (hf : ∀ u ∈ b, f u.toNat < 3) (hb : b.length ≤ 8) {j : Nat} (hj : j < b.length) : F_spec_l29Digit ((cod 3 b f : Nat) : Int) 3 (j : Int) = some ((f (b[j]).toNat : Nat) : Int) := by
  have := l29Digit_eq (k := 3) (s := cod 3 b f) (a := j) (by decide) (by decide) (by omega)
  rw [show ((3 : Nat) : Int) = 3 from rfl] at this
  rw [this]
  have e : b = b.take j ++ b[j] :: b.drop (j + 1) := by rw [List.getElem_cons_drop, List.take_append_drop]
  have h := cod_digit (k := 3) (b1 := b.take j) (b2 := b.drop (j + 1)) (v := b[j]) (f := f) (by rw [← e]; exact hf)
  rw [← e, List.length_take, Nat.min_eq_left (by omega)] at h
  rw [h]
theorem power3 {n : Nat} (hn : n ≤ 9) : F_spec_l29Power 3 (n : Int) = some ((3 ^ n : Nat) : Int) := l29Power_eq (k := 3) (by decide) hn
theorem pow3_le {n : Nat} (hn : n ≤ 9) : 3 ^ n ≤ 262144 := pow_in (k := 3) (by decide) hn
theorem dec_cod3 {b : List Int} (hnd : b.Pairwise (fun u v => u.toNat ≠ v.toNat)) {f : Nat → Nat} (hf : ∀ v ∈ b, f v.toNat < 3) : ∀ v ∈ b, dec 3 b (cod 3 b f) v.toNat = f v.toNat := by
  obtain ⟨h1, h2⟩ := dec_spec (k := 3) hnd (cod_lt hf)
  exact cod_inj h1 hf h2
theorem getD_set_eq {l : List Int} {i : Nat} (x : Int) (h : i < l.length) : (l.set i x).getD i 0 = x := by rw [List.getD_eq_getElem?_getD, List.getElem?_set_self h]; rfl
theorem getD_set_ne {l : List Int} {i j : Nat} (x : Int) (h : i ≠ j) : (l.set i x).getD j 0 = l.getD j 0 := by rw [List.getD_eq_getElem?_getD, List.getD_eq_getElem?_getD, List.getElem?_set, if_neg h]
open Classical in
theorem edge_eq3 {g : List (List Int)} (hl : ∀ x ∈ g, x.length ≤ 1048576) {v : Int} (h0 : 0 ≤ v) (h1 : v < g.length) (u : Int) : F_spec_l1Edge g v u = some (decide (u ∈ g.getD v.toNat [])) := by
  have hrow : g.getD v.toNat [] ∈ g := by rw [List.getD_eq_getElem?_getD, List.getElem?_eq_getElem (by omega)]; exact List.getElem_mem _
  unfold F_spec_l1Edge
  rw [idx_of (x := g.getD v.toNat []) h0 (by rw [List.getD_eq_getElem?_getD, List.getElem?_eq_getElem (by omega)]; rfl), cal_of (l1Has_eq _ _ (by have := hl _ hrow; omega))]
section
variable {g : List (List Int)}
open Classical in
theorem gone_to (hl : ∀ x ∈ g, x.length ≤ 1048576) {v : Int} (h0 : 0 ≤ v) (h1 : v < g.length) {b : List Int} (hb : b.length ≤ 8) (hpos : ∀ u ∈ b, 0 ≤ u) {f : Nat → Nat} (hf : ∀ u ∈ b, f u.toNat < 3) :
    lp (fun s => F_spec_l29Gone_l4 g v b ((f v.toNat : Nat) : Int) ((cod 3 b f : Nat) : Int) s.1 s.2) (((cod 3 b f : Nat) : Int), 0) = some (.inl ((cod 3 b (toF g v f) : Nat) : Int)) := by
  have hA : ∀ u ∈ b, addF g v f u.toNat < 3 := fun u hu => by unfold addF; split <;> omega
  have hlim := pow3_le (show b.length ≤ 9 by omega)
  have hc1 := cod_lt hf
  have hpart : ∀ k, k ≤ b.length → cod 3 (b.take k) (addF g v f) < 3 ^ b.length := fun k hk => by
    have := cod_lt (k := 3) (b := b.take k) (f := addF g v f) (fun u hu => hA u (List.mem_of_mem_take hu))
    rw [List.length_take, Nat.min_eq_left hk] at this
    exact Nat.lt_of_lt_of_le this (Nat.pow_le_pow_right (by decide) hk)
  have hsum : cod 3 b (toF g v f) = cod 3 b f + cod 3 b (addF g v f) := cod_sum b f (addF g v f)
  refine lp_upto (fun k => (((cod 3 b f + cod 3 (b.take k) (addF g v f) : Nat) : Int), (k : Int))) b.length rfl (fun k hk => ?_) ?_
  · simp only [F_spec_l29Gone_l4]
    have hstep := cod_take (k := 3) hk (addF g v f)
    have hp1 := hpart (k + 1) (by omega)
    have hu0 := hpos _ (List.getElem_mem hk)
    have eu : (((b[k]).toNat : Nat) : Int) = b[k] := by omega
    rw [if_pos (by omega)]
    have same : addF g v f (b[k]).toNat = 0 → some (Sum.inl (((cod 3 b f + cod 3 (b.take k) (addF g v f) : Nat) : Int), (k : Int) + 1)) = (some (Sum.inl (((cod 3 b f + cod 3 (b.take (k + 1)) (addF g v f) : Nat) : Int), ((k + 1 : Nat) : Int))) : Option ((Int × Int) ⊕ (Int ⊕ (((List Int) × Int) ⊕ ((List Int) ⊕ (List Int)))))) := fun hz => by
      rw [hstep, hz, Nat.mul_zero, Nat.add_zero, Int.natCast_add k 1]; rfl
    by_cases c0 : f v.toNat = 2
    · rw [if_pos (by omega), idx_nat hk, cal_of (edge_eq3 hl h0 h1 _)]
      by_cases c1 : b[k] ∈ g.getD v.toNat []
      · rw [if_pos (by simp only [decide_eq_true_eq]; exact c1), cal_of (digit3 hf hb hk)]
        by_cases c2 : f (b[k]).toNat = 0
        · have hz : addF g v f (b[k]).toNat = 1 := by unfold addF; rw [if_pos ⟨c0, by rw [eu]; exact c1, c2⟩]
          have e3 : ((cod 3 b f + cod 3 (b.take k) (addF g v f) : Nat) : Int) + ((3 ^ k : Nat) : Int) = ((cod 3 b f + cod 3 (b.take (k + 1)) (addF g v f) : Nat) : Int) := by rw [hstep, hz, Nat.mul_one]; push_cast; omega
          rw [if_pos (by omega), cal_of (power3 (by omega)), e3, ck_of (inI (by omega) (by omega)), ck_of (inI (by omega) (by omega))]; rfl
        · rw [if_neg (by omega), ck_of (inI (by omega) (by omega))]
          exact same (by unfold addF; rw [if_neg (fun h => c2 h.2.2)])
      · rw [if_neg (by simp only [decide_eq_true_eq]; exact c1), ck_of (inI (by omega) (by omega))]
        exact same (by unfold addF; rw [if_neg (fun h => c1 (by rw [← eu]; exact h.2.1))])
    · rw [if_neg (by omega), ck_of (inI (by omega) (by omega))]
      exact same (by unfold addF; rw [if_neg (fun h => c0 h.1)])
  · simp only [F_spec_l29Gone_l4]
    rw [if_neg (by omega), List.take_length, hsum]
def Sg (g : List (List Int)) (b bj : List Int) (v : Int) (kid : List Int) (s c : Nat) (n : Int) : Prop := ∃ t, t < s ∧ (dec 3 bj t v.toNat = 0 → nearC g b (dec 3 bj t) v 2) ∧ cod 3 b (toF g v (dec 3 bj t)) = c ∧ n = kid.getD t 0 + flg (dec 3 bj t) v
theorem l6_l4 : @F_spec_l29Gone_l6 = @F_spec_l29Gone_l4 := rfl
theorem k7_k5 : @F_spec_l29Gone_k7 = @F_spec_l29Gone_k5 := rfl
open Classical in
theorem l29Gone_eq (hl : ∀ x ∈ g, x.length ≤ 1048576) {v : Int} (h0 : 0 ≤ v) (h1 : v < g.length) {b1 b2 : List Int} (hbj : (b1 ++ v :: b2).length ≤ 8) (hpos : ∀ u ∈ b1 ++ v :: b2, 0 ≤ u) (hndj : (b1 ++ v :: b2).Pairwise (fun u v => u.toNat ≠ v.toNat)) {kid : List Int} (hkid : kid.length = 3 ^ (b1 ++ v :: b2).length) (hk : ∀ x ∈ kid, 0 ≤ x ∧ x ≤ 1000) :
    ∃ out, F_spec_l29Gone g kid (b1 ++ v :: b2) v ((b1 ++ b2).length : Int) = some out ∧ out.length = 3 ^ (b1 ++ b2).length ∧ ∀ c, c < 3 ^ (b1 ++ b2).length → IsV (out.getD c 0) (Sg g (b1 ++ b2) (b1 ++ v :: b2) v kid kid.length c) := by
  have hbl : (b1 ++ b2).length + 1 = (b1 ++ v :: b2).length := by simp; omega
  have hnd := nodup_split hndj
  have hne : ∀ u ∈ b1 ++ b2, u ≠ v := fun u hu e => hnd u hu (by rw [e])
  have hsub : ∀ u ∈ b1 ++ b2, u ∈ b1 ++ v :: b2 := fun u hu => by simp at hu ⊢; rcases hu with h | h; exact .inl h; exact .inr (.inr h)
  have hl1 : b1.length ≤ 8 := by rw [List.length_append] at hbj; omega
  have hat : F_spec_l29At (b1 ++ v :: b2) v = some ((b1.length : Nat) : Int) := l29At_eq (fun u hu => hne u (List.mem_append_left _ hu)) hl1
  have hwo : F_spec_l2Without (b1 ++ v :: b2) v = some (b1 ++ b2) := by
    rw [l2Without_eq v (by omega)]
    congr 1
    rw [List.filter_append, List.filter_cons_of_neg (by simp), List.filter_eq_self.2 (fun x hx => by simpa using hne x (List.mem_append_left _ hx)), List.filter_eq_self.2 (fun x hx => by simpa using hne x (List.mem_append_right _ hx))]
  have hp := pow3_le (show (b1 ++ b2).length ≤ 9 by omega)
  have hpj := pow3_le (show (b1 ++ v :: b2).length ≤ 9 by omega)
  have hpow : (0 : Nat) < 3 ^ (b1 ++ b2).length := Nat.pow_pos (by decide)
  unfold F_spec_l29Gone
  rw [cal_of (power3 (by omega))]
  have k1 : lp (fun s => F_spec_l29Gone_l1 s.1 s.2) (([] : List Int), ((3 ^ (b1 ++ b2).length : Nat) : Int)) = some (.inl (List.replicate (3 ^ (b1 ++ b2).length) 1000)) := by
    refine lp_upto (fun k => (List.replicate k (1000 : Int), ((3 ^ (b1 ++ b2).length - k : Nat) : Int))) (3 ^ (b1 ++ b2).length) rfl (fun k hk2 => ?_) ?_
    · simp only [F_spec_l29Gone_l1]
      rw [if_pos (by omega), app1_s (by rw [List.length_replicate]; omega), ck_of (inI (by omega) (by omega)), List.replicate_succ', show ((3 ^ (b1 ++ b2).length - k : Nat) : Int) - 1 = ((3 ^ (b1 ++ b2).length - (k + 1) : Nat) : Int) by omega]
    · simp only [F_spec_l29Gone_l1]
      rw [if_neg (by omega)]
  rw [k1, bnd_inl_eq]
  unfold F_spec_l29Gone_k2
  rw [cal_of hat, cal_of hwo]
  obtain ⟨o, ho, hlen, hAll⟩ := lp_ex (step := fun s => F_spec_l29Gone_l3 g kid v ((b1.length : Nat) : Int) (b1 ++ b2) s.1 s.2) (fun i (out : List Int) => (out, (i : Int))) kid.length
    (fun s out => out.length = 3 ^ (b1 ++ b2).length ∧ ∀ c, c < 3 ^ (b1 ++ b2).length → IsV (out.getD c 0) (Sg g (b1 ++ b2) (b1 ++ v :: b2) v kid s c))
    (fun o => ∃ out, o = .inl out ∧ out.length = 3 ^ (b1 ++ b2).length ∧ ∀ c, c < 3 ^ (b1 ++ b2).length → IsV (out.getD c 0) (Sg g (b1 ++ b2) (b1 ++ v :: b2) v kid kid.length c)) (fun s out hs hI => by
      obtain ⟨hlen, hAll⟩ := hI
      have hs3 : s < 3 ^ (b1 ++ v :: b2).length := by rw [← hkid]; exact hs
      obtain ⟨hd1, hd2⟩ := dec_spec (k := 3) hndj hs3
      obtain ⟨f, ef⟩ : ∃ f, f = dec 3 (b1 ++ v :: b2) s := ⟨_, rfl⟩
      rw [← ef] at hd1 hd2
      have hfb : ∀ u ∈ b1 ++ b2, f u.toNat < 3 := fun u hu => hd1 u (hsub u hu)
      have hfv := hd1 v (by simp)
      have hdg : F_spec_l29Digit (s : Int) 3 ((b1.length : Nat) : Int) = some ((f v.toNat : Nat) : Int) := by
        have := l29Digit_eq (k := 3) (s := s) (a := b1.length) (by decide) (by decide) hl1
        rw [show ((3 : Nat) : Int) = 3 from rfl] at this
        rw [this, ← hd2, cod_digit hd1]
      have hout : F_spec_l29Out (s : Int) 3 ((b1.length : Nat) : Int) = some ((cod 3 (b1 ++ b2) f : Nat) : Int) := by
        have := l29Out_eq (k := 3) (s := s) (a := b1.length) (by decide) (by decide) hl1 (by omega)
        rw [show ((3 : Nat) : Int) = 3 from rfl] at this
        rw [this, ← hd2, cod_out hd1]
      have hnear : F_spec_l29Near g (b1 ++ b2) ((cod 3 (b1 ++ b2) f : Nat) : Int) 3 v 2 = some (decide (nearC g (b1 ++ b2) f v 2)) := l29Near_eq (k := 3) hl (by decide) (by decide) (by omega) hfb h0 h1 2
      have hto := gone_to hl h0 h1 (b := b1 ++ b2) (by omega) (fun u hu => hpos u (hsub u hu)) hfb
      have htl := cod_lt (toF_valid (g := g) (v := v) hfb)
      have hks : kid.getD s 0 = kid[s] := by rw [List.getD_eq_getElem?_getD, List.getElem?_eq_getElem hs]; rfl
      have hkb := hk _ (List.getElem_mem hs)
      have hfl : 0 ≤ flg f v ∧ flg f v ≤ 1 := by unfold flg; split <;> omega
      -- the state goes somewhere
      have put : (f v.toNat = 0 → nearC g (b1 ++ b2) f v 2) → ∃ out', F_spec_l29Gone_k5 kid out (s : Int) ((f v.toNat : Nat) : Int) ((cod 3 (b1 ++ b2) (toF g v f) : Nat) : Int) = some (.inl (out', ((s + 1 : Nat) : Int))) ∧ out'.length = 3 ^ (b1 ++ b2).length ∧ ∀ c, c < 3 ^ (b1 ++ b2).length → IsV (out'.getD c 0) (Sg g (b1 ++ b2) (b1 ++ v :: b2) v kid (s + 1) c) := fun hok => by
        have hc := hAll _ htl
        refine ⟨out.set (cod 3 (b1 ++ b2) (toF g v f)) (min (out.getD (cod 3 (b1 ++ b2) (toF g v f)) 0) (kid[s] + flg f v)), ?_, by rw [List.length_set]; exact hlen, fun c hc2 => ?_⟩
        · unfold F_spec_l29Gone_k5
          rw [getD_idx (by omega), idx_nat hs, cal_of (flag_eq f v rfl), ck_of (inI (by omega) (by omega)), cal_of (l1Min_w _ _), getD_idx (by omega), ck_of (inI (by omega) (by omega)), Int.toNat_natCast]; rfl
        · by_cases e : cod 3 (b1 ++ b2) (toF g v f) = c
          · subst e
            rw [getD_set_eq _ (by omega)]
            refine IsV.min hc (by omega) fun n => ?_
            unfold Sg
            constructor
            · rintro ⟨t, ht, a1, a2, a3⟩
              by_cases et : t = s
              · subst et; rw [← ef, hks] at a3; exact .inr a3
              · exact .inl ⟨t, by omega, a1, a2, a3⟩
            · rintro (⟨t, ht, a1, a2, a3⟩ | rfl)
              · exact ⟨t, by omega, a1, a2, a3⟩
              · exact ⟨s, by omega, by rw [← ef]; exact hok, by rw [← ef], by rw [← ef, hks]⟩
          · rw [getD_set_ne _ e]
            refine (hAll c hc2).iff fun n => ?_
            unfold Sg
            constructor
            · rintro ⟨t, ht, a1, a2, a3⟩
              by_cases et : t = s
              · subst et; rw [← ef] at a2; exact absurd a2 e
              · exact ⟨t, by omega, a1, a2, a3⟩
            · rintro ⟨t, ht, a1, a2, a3⟩
              exact ⟨t, by omega, a1, a2, a3⟩
      simp only [F_spec_l29Gone_l3]
      rw [if_pos (by omega), cal_of hdg, cal_of hout]
      by_cases c0 : f v.toNat = 0
      · rw [if_pos (by omega), cal_of hnear]
        by_cases cn : nearC g (b1 ++ b2) f v 2
        · obtain ⟨out', e1, e2⟩ := put fun _ => cn
          refine ⟨out', ?_, e2⟩
          rw [if_neg (by rw [decide_eq_true cn]; simp), hto, bnd_inl_eq, e1]
        · refine ⟨out, ?_, hlen, fun c hc2 => (hAll c hc2).iff fun n => ?_⟩
          · rw [if_pos (by rw [decide_eq_false cn]; simp), ck_of (inI (by omega) (by omega))]; rfl
          · unfold Sg
            constructor
            · rintro ⟨t, ht, a1, a2, a3⟩
              by_cases et : t = s
              · subst et; rw [← ef] at a1; exact absurd (a1 c0) cn
              · exact ⟨t, by omega, a1, a2, a3⟩
            · rintro ⟨t, ht, a1, a2, a3⟩
              exact ⟨t, by omega, a1, a2, a3⟩
      · obtain ⟨out', e1, e2⟩ := put fun h => absurd h c0
        refine ⟨out', ?_, e2⟩
        rw [if_neg (by omega), l6_l4, k7_k5, hto, bnd_inl_eq, e1])
    (fun out hI => ⟨.inl out, by simp only [F_spec_l29Gone_l3]; rw [if_neg (by omega)], out, rfl, hI⟩) kid.length 0 (List.replicate (3 ^ (b1 ++ b2).length) 1000) (by omega) ⟨List.length_replicate, fun c hc => by
      rw [show (List.replicate (3 ^ (b1 ++ b2).length) (1000 : Int)).getD c 0 = 1000 by rw [List.getD_eq_getElem?_getD, List.getElem?_replicate, if_pos hc]; rfl]
      exact IsV.none fun n ⟨t, ht, _⟩ => by omega⟩
  obtain ⟨rfl, h2⟩ := hAll
  rw [show ((0 : Nat) : Int) = 0 from rfl] at ho
  refine ⟨hlen, ?_, h2⟩
  rw [ho, bnd_inl_eq]; rfl
end
end Go.Proofs.Ytnebbhginakaiaa

/- The reference's rows where two kids meet; all its rows. -/
namespace Go.Proofs.Ytnebbhginakaiaa
def Fit (b : List Int) (p q c : Nat) : Prop := (∀ u ∈ b, (dec 3 b p u.toNat = 2 ↔ dec 3 b q u.toNat = 2)) ∧ cod 3 b (fun x => max (dec 3 b p x) (dec 3 b q x)) = c
def Sm (b : List Int) (x y : List Int) (p q c : Nat) (n : Int) : Prop := ∃ s t, ((s < p ∧ t < y.length) ∨ (s = p ∧ t < q)) ∧ Fit b s t c ∧ n = x.getD s 0 + y.getD t 0
theorem mx_lt {f h : Nat → Nat} {b : List Int} (hf : ∀ u ∈ b, f u.toNat < 3) (hh : ∀ u ∈ b, h u.toNat < 3) : ∀ u ∈ b, max (f u.toNat) (h u.toNat) < 3 := fun u hu => by have := hf u hu; have := hh u hu; omega
theorem meet_to {b : List Int} (hb : b.length ≤ 8) {f h : Nat → Nat} (hf : ∀ u ∈ b, f u.toNat < 3) (hh : ∀ u ∈ b, h u.toNat < 3) :
    ((∀ u ∈ b, (f u.toNat = 2 ↔ h u.toNat = 2)) → lp (fun s => F_spec_l29Meet_l5 (b.length : Int) ((cod 3 b f : Nat) : Int) ((cod 3 b h : Nat) : Int) s.1 s.2) (0, 0) = some (.inl ((cod 3 b (fun x => max (f x) (h x)) : Nat) : Int))) ∧
    ((¬ ∀ u ∈ b, (f u.toNat = 2 ↔ h u.toNat = 2)) → lp (fun s => F_spec_l29Meet_l5 (b.length : Int) ((cod 3 b f : Nat) : Int) ((cod 3 b h : Nat) : Int) s.1 s.2) (0, 0) = some (.inl (-1))) := by
  have hlim := pow3_le (show b.length ≤ 9 by omega)
  have hpart : ∀ k, k ≤ b.length → cod 3 (b.take k) (fun x => max (f x) (h x)) < 3 ^ b.length := fun k hk => by
    have := cod_lt (k := 3) (b := b.take k) (f := fun x => max (f x) (h x)) (fun u hu => mx_lt hf hh u (List.mem_of_mem_take hu))
    rw [List.length_take, Nat.min_eq_left hk] at this
    exact Nat.lt_of_lt_of_le this (Nat.pow_le_pow_right (by decide) hk)
  -- a step at a place where they fit
  have good : ∀ k (hk : k < b.length), (f (b[k]).toNat = 2 ↔ h (b[k]).toNat = 2) → F_spec_l29Meet_l5 (b.length : Int) ((cod 3 b f : Nat) : Int) ((cod 3 b h : Nat) : Int) ((cod 3 (b.take k) (fun x => max (f x) (h x)) : Nat) : Int) (k : Int) = some (.inl (((cod 3 (b.take (k + 1)) (fun x => max (f x) (h x)) : Nat) : Int), ((k + 1 : Nat) : Int))) := fun k hk hg => by
    have hstep := cod_take (k := 3) hk (fun x => max (f x) (h x))
    have hp1 := hpart (k + 1) (by omega)
    have hp0 := hpart k (by omega)
    have h1 := hf _ (List.getElem_mem hk)
    have h2 := hh _ (List.getElem_mem hk)
    unfold F_spec_l29Meet_l5
    have e1 : ((max (f (b[k]).toNat) (h (b[k]).toNat) : Nat) : Int) * ((3 ^ k : Nat) : Int) = ((3 ^ k * max (f (b[k]).toNat) (h (b[k]).toNat) : Nat) : Int) := by rw [← Int.natCast_mul, Nat.mul_comm]
    have e2 : ((cod 3 (b.take k) (fun x => max (f x) (h x)) : Nat) : Int) + ((3 ^ k * max (f (b[k]).toNat) (h (b[k]).toNat) : Nat) : Int) = ((cod 3 (b.take (k + 1)) (fun x => max (f x) (h x)) : Nat) : Int) := by rw [hstep]; exact (Int.natCast_add _ _).symm
    have hle : 3 ^ k * max (f (b[k]).toNat) (h (b[k]).toNat) ≤ cod 3 (b.take (k + 1)) (fun x => max (f x) (h x)) := by rw [hstep]; exact Nat.le_add_left _ _
    rw [if_pos (by omega), if_pos (by omega), cal_of (digit3 hf hb hk), cal_of (digit3 hh hb hk), if_neg (by
      by_cases c : f (b[k]).toNat = 2
      · have c2 := hg.1 c
        rw [c, c2]; simp
      · have c2 : ¬ h (b[k]).toNat = 2 := fun e => c (hg.2 e)
        rw [decide_eq_false (by omega), decide_eq_false (by omega)]; simp), cal_of (l1Max_n _ _), cal_of (power3 (by omega)), e1, ck_of (inI (by omega) (by omega)), e2, ck_of (inI (by omega) (by omega)), ck_of (inI (by omega) (by omega))]; rfl
  constructor
  · intro hall
    refine lp_upto (fun k => (((cod 3 (b.take k) (fun x => max (f x) (h x)) : Nat) : Int), (k : Int))) b.length rfl (fun k hk => good k hk (hall _ (List.getElem_mem hk))) ?_
    simp only [F_spec_l29Meet_l5]
    rw [if_neg (by omega), List.take_length]
  · intro hbad
    have hbad2 : ¬ ∀ k, k < b.length → ∀ (hk : k < b.length), (f (b[k]).toNat = 2 ↔ h (b[k]).toNat = 2) := fun hh2 => hbad fun u hu => by
      obtain ⟨k, hk, rfl⟩ := List.getElem_of_mem hu
      exact hh2 k hk hk
    obtain ⟨m, hm, hmb, hlt⟩ := first_bad hbad2
    have hmb : ¬ (f (b[m]).toNat = 2 ↔ h (b[m]).toNat = 2) := fun e => hmb fun _ => e
    have h1 := hf _ (List.getElem_mem hm)
    have h2 := hh _ (List.getElem_mem hm)
    refine lp_upto (fun k => (if k ≤ m then ((cod 3 (b.take k) (fun x => max (f x) (h x)) : Nat) : Int) else -1, (k : Int))) (m + 1) (by rw [if_pos (Nat.zero_le _)]; rfl) (fun k hk => ?_) ?_
    · by_cases e : k = m
      · subst e
        rw [if_pos (Nat.le_refl _), if_neg (by omega)]
        simp only [F_spec_l29Meet_l5]
        rw [if_pos (by omega), if_pos (by omega), cal_of (digit3 hf hb hm), cal_of (digit3 hh hb hm), if_pos (by
          by_cases c : f (b[k]).toNat = 2
          · have c2 : ¬ h (b[k]).toNat = 2 := fun e => hmb ⟨fun _ => e, fun _ => c⟩
            rw [decide_eq_true (show ((f (b[k]).toNat : Nat) : Int) = 2 by omega), decide_eq_false (by omega)]; rfl
          · have c2 : h (b[k]).toNat = 2 := Classical.byContradiction fun e => hmb ⟨fun h => absurd h c, fun h => absurd h e⟩
            rw [decide_eq_false (show ¬ ((f (b[k]).toNat : Nat) : Int) = 2 by omega), decide_eq_true (show ((h (b[k]).toNat : Nat) : Int) = 2 by omega)]; rfl), ck_of (inI (by omega) (by omega))]; rfl
      · rw [if_pos (by omega), if_pos (by omega)]
        exact good k (by omega) (hlt k (by omega) (by omega))
    · rw [if_neg (by omega)]
      simp only [F_spec_l29Meet_l5]
      by_cases c : ((m + 1 : Nat) : Int) < (b.length : Int)
      · rw [if_pos c, if_neg (by decide)]
      · rw [if_neg c]
theorem l29Meet_eq {b : List Int} (hb : b.length ≤ 8) (hnd : b.Pairwise (fun u v => u.toNat ≠ v.toNat)) {x y : List Int} (hx : x.length = 3 ^ b.length) (hy : y.length = 3 ^ b.length) (hxi : ∀ n ∈ x, 0 ≤ n ∧ n ≤ 1000) (hyi : ∀ n ∈ y, 0 ≤ n ∧ n ≤ 1000) :
    ∃ out, F_spec_l29Meet x y (b.length : Int) = some out ∧ out.length = 3 ^ b.length ∧ ∀ c, c < 3 ^ b.length → IsV (out.getD c 0) (Sm b x y x.length 0 c) := by
  have hlim := pow3_le (show b.length ≤ 9 by omega)
  unfold F_spec_l29Meet
  have k1 : lp (fun s => F_spec_l29Meet_l1 x s.1 s.2) (([] : List Int), 0) = some (.inl (List.replicate (3 ^ b.length) 1000)) := by
    refine lp_upto (fun k => (List.replicate k (1000 : Int), (k : Int))) (3 ^ b.length) rfl (fun k hk2 => ?_) ?_
    · simp only [F_spec_l29Meet_l1]
      rw [if_pos (by omega), app1_s (by rw [List.length_replicate]; omega), ck_of (inI (by omega) (by omega)), List.replicate_succ']; rfl
    · simp only [F_spec_l29Meet_l1]
      rw [if_neg (by omega)]
  rw [k1, bnd_inl_eq]
  unfold F_spec_l29Meet_k2
  obtain ⟨o, ho, hAll⟩ := lp_ex (step := fun s => F_spec_l29Meet_l3 x y (b.length : Int) s.1 s.2) (fun i (out : List Int) => (out, (i : Int))) x.length
    (fun p out => out.length = 3 ^ b.length ∧ ∀ c, c < 3 ^ b.length → IsV (out.getD c 0) (Sm b x y p 0 c))
    (fun o => ∃ out, o = .inl out ∧ out.length = 3 ^ b.length ∧ ∀ c, c < 3 ^ b.length → IsV (out.getD c 0) (Sm b x y x.length 0 c)) (fun p out hp hI => by
      obtain ⟨o2, ho2, hAll2⟩ := lp_ex (step := fun s => F_spec_l29Meet_l4 x y (b.length : Int) (p : Int) s.1 s.2) (fun i (out : List Int) => (out, (i : Int))) y.length
        (fun q out => out.length = 3 ^ b.length ∧ ∀ c, c < 3 ^ b.length → IsV (out.getD c 0) (Sm b x y p q c))
        (fun o => ∃ out, o = .inl out ∧ out.length = 3 ^ b.length ∧ ∀ c, c < 3 ^ b.length → IsV (out.getD c 0) (Sm b x y (p + 1) 0 c)) (fun q out hq hI => by
          obtain ⟨hlen, hAll⟩ := hI
          obtain ⟨d1, d2⟩ := dec_spec (k := 3) hnd (s := p) (by omega)
          obtain ⟨d3, d4⟩ := dec_spec (k := 3) hnd (s := q) (by omega)
          obtain ⟨m1, m2⟩ := meet_to hb d1 d3
          rw [d2, d4] at m1 m2
          have hxp := hxi _ (List.getElem_mem hp)
          have hyq := hyi _ (List.getElem_mem hq)
          have exp : x.getD p 0 = x[p] := by rw [List.getD_eq_getElem?_getD, List.getElem?_eq_getElem hp]; rfl
          have eyq : y.getD q 0 = y[q] := by rw [List.getD_eq_getElem?_getD, List.getElem?_eq_getElem hq]; rfl
          simp only [F_spec_l29Meet_l4]
          rw [if_pos (by omega)]
          by_cases c : ∀ u ∈ b, (dec 3 b p u.toNat = 2 ↔ dec 3 b q u.toNat = 2)
          · rw [m1 c, bnd_inl_eq]
            have htl := cod_lt (k := 3) (b := b) (f := fun x => max (dec 3 b p x) (dec 3 b q x)) (mx_lt d1 d3)
            obtain ⟨t, ht⟩ : ∃ t, t = cod 3 b (fun x => max (dec 3 b p x) (dec 3 b q x)) := ⟨_, rfl⟩
            rw [← ht] at htl ⊢
            have hct := hAll t htl
            have h1 := hct.lo; have h2 := hct.hi
            refine ⟨out.set t (min (out.getD t 0) (x[p] + y[q])), ?_, by rw [List.length_set]; exact hlen, fun cc hc2 => ?_⟩
            · unfold F_spec_l29Meet_k6
              rw [if_pos (by omega), getD_idx (by omega), idx_nat hp, idx_nat hq, ck_of (inI (by omega) (by omega)), cal_of (l1Min_w _ _), getD_idx (by omega), ck_of (inI (by omega) (by omega)), Int.toNat_natCast]; rfl
            · by_cases e : t = cc
              · subst e
                rw [getD_set_eq _ (by omega)]
                refine IsV.min hct (by omega) fun n => ?_
                unfold Sm
                constructor
                · rintro ⟨s, t', hst, a1, a2⟩
                  by_cases e2 : s = p ∧ t' = q
                  · obtain ⟨rfl, rfl⟩ := e2; rw [exp, eyq] at a2; exact .inr a2
                  · exact .inl ⟨s, t', by omega, a1, a2⟩
                · rintro (⟨s, t', hst, a1, a2⟩ | rfl)
                  · exact ⟨s, t', by omega, a1, a2⟩
                  · exact ⟨p, q, .inr ⟨rfl, by omega⟩, ⟨c, ht.symm⟩, by rw [exp, eyq]⟩
              · rw [getD_set_ne _ e]
                refine (hAll cc hc2).iff fun n => ?_
                unfold Sm
                constructor
                · rintro ⟨s, t', hst, a1, a2⟩
                  by_cases e2 : s = p ∧ t' = q
                  · obtain ⟨rfl, rfl⟩ := e2
                    exact absurd (ht.trans a1.2) e
                  · exact ⟨s, t', by omega, a1, a2⟩
                · rintro ⟨s, t', hst, a1, a2⟩
                  exact ⟨s, t', by omega, a1, a2⟩
          · rw [m2 c, bnd_inl_eq]
            refine ⟨out, ?_, hlen, fun cc hc2 => (hAll cc hc2).iff fun n => ?_⟩
            · unfold F_spec_l29Meet_k6
              rw [if_neg (by decide), ck_of (inI (by omega) (by omega))]; rfl
            · unfold Sm
              constructor
              · rintro ⟨s, t', hst, a1, a2⟩
                by_cases e2 : s = p ∧ t' = q
                · obtain ⟨rfl, rfl⟩ := e2
                  exact absurd a1.1 c
                · exact ⟨s, t', by omega, a1, a2⟩
              · rintro ⟨s, t', hst, a1, a2⟩
                exact ⟨s, t', by omega, a1, a2⟩)
        (fun out hI => ⟨.inl out, by simp only [F_spec_l29Meet_l4]; rw [if_neg (by omega)], out, rfl, hI.1, fun c hc => (hI.2 c hc).iff fun n => by
          unfold Sm
          constructor
          · rintro ⟨s, t', hst, a1, a2⟩
            exact ⟨s, t', by omega, a1, a2⟩
          · rintro ⟨s, t', hst, a1, a2⟩
            exact ⟨s, t', by omega, a1, a2⟩⟩) y.length 0 out (by omega) hI
      obtain ⟨out2, rfl, h3, h4⟩ := hAll2
      rw [show ((0 : Nat) : Int) = 0 from rfl] at ho2
      refine ⟨out2, ?_, h3, h4⟩
      simp only [F_spec_l29Meet_l3]
      rw [if_pos (by omega), ho2, bnd_inl_eq]
      unfold F_spec_l29Meet_k7
      rw [ck_of (inI (by omega) (by omega))]; rfl)
    (fun out hI => ⟨.inl out, by simp only [F_spec_l29Meet_l3]; rw [if_neg (by omega)], out, rfl, hI⟩) x.length 0 (List.replicate (3 ^ b.length) 1000) (by omega) ⟨List.length_replicate, fun c hc => by
      rw [show (List.replicate (3 ^ b.length) (1000 : Int)).getD c 0 = 1000 by rw [List.getD_eq_getElem?_getD, List.getElem?_replicate, if_pos hc]; rfl]
      exact IsV.none fun n ⟨s, t, hst, _⟩ => by omega⟩
  obtain ⟨out, rfl, h2, h3⟩ := hAll
  rw [show ((0 : Nat) : Int) = 0 from rfl] at ho
  exact ⟨out, by rw [ho, bnd_inl_eq]; rfl, h2, h3⟩
section
variable {g : List (List Int)} {K V : List Int} {B C : List (List Int)}
structure RowR (g : List (List Int)) (K V : List Int) (B C : List (List Int)) (j : Nat) (row : List Int) : Prop where
  len : row.length = 3 ^ (B.getD j []).length
  val : ∀ f, (∀ u ∈ B.getD j [], f u.toNat < 3) → IsV (row.getD (cod 3 (B.getD j []) f) 0) (Rl g K V B C j f)
theorem RowR.mem (h : NiceIs g K V B C) {j : Nat} (hj : j < K.length) {row : List Int} (hr : RowR g K V B C j row) : ∀ x ∈ row, 0 ≤ x ∧ x ≤ 1000 := fun x hx => by
  obtain ⟨s, hs, rfl⟩ := List.getElem_of_mem hx
  obtain ⟨d1, d2⟩ := dec_spec (k := 3) (h.nodup hj) (s := s) (by rw [← hr.len]; exact hs)
  have := hr.val _ d1
  rw [d2, List.getD_eq_getElem?_getD, List.getElem?_eq_getElem hs] at this
  exact ⟨this.lo, this.hi⟩
theorem RowR.at (h : NiceIs g K V B C) {j : Nat} (hj : j < K.length) {row : List Int} (hr : RowR g K V B C j row) {t : Nat} (ht : t < 3 ^ (B.getD j []).length) : IsV (row.getD t 0) (Rl g K V B C j (dec 3 (B.getD j []) t)) := by
  obtain ⟨d1, d2⟩ := dec_spec (k := 3) (h.nodup hj) ht
  have := hr.val _ d1
  rwa [d2] at this
theorem rowR_add (h : NiceIs g K V B C) {i j : Nat} {b1 b2 : List Int} (hi : i < K.length) (hk : K.getD i 0 = 2) (hj : j < i) (hc : C.getD i [] = [(j : Int)]) (hb : B.getD i [] = b1 ++ V.getD i 0 :: b2) (hbk : B.getD j [] = b1 ++ b2) (h6 : (B.getD i []).length ≤ 6) {rs : List (List Int)} {kid : List Int} (hrs : ∀ {β : Type} (q : List Int → Option β), idx rs (j : Int) q = q kid) (hkid : RowR g K V B C j kid) :
    ∃ row, lp (fun s => F_spec_RuleBy_l2 C (i : Int) (B.getD i []) ((b1.length : Nat) : Int) s.1 s.2.1 s.2.2) (rs, ([] : List Int), 0) = some (.inl (rs, row)) ∧ RowR g K V B C i row := by
  have hC : C.length = K.length := h.2.2.2.2.1
  have hnd := h.nodup hi
  have hnd0 := hnd
  rw [hb] at hnd
  have hl1 : b1.length ≤ 8 := by rw [hb, List.length_append] at h6; omega
  have hlim := pow3_le (show (B.getD i []).length ≤ 9 by omega)
  let X : Nat → Int := fun t => if dec 3 (B.getD i []) t (V.getD i 0).toNat = 1 then 1000 else kid.getD (cod 3 (B.getD j []) (dec 3 (B.getD i []) t)) 0
  have hfk : ∀ {f : Nat → Nat}, (∀ u ∈ B.getD i [], f u.toNat < 3) → ∀ u ∈ B.getD j [], f u.toNat < 3 := fun hf u hu => hf u (by rw [hb]; rw [hbk] at hu; simp at hu ⊢; rcases hu with h | h; exact .inl h; exact .inr (.inr h))
  refine ⟨(List.range (3 ^ (B.getD i []).length)).map X, ?_, by simp, fun f hf => ?_⟩
  · refine lp_upto (fun s => (rs, (List.range s).map X, (s : Int))) (3 ^ (B.getD i []).length) rfl (fun s hs => ?_) ?_
    · simp only [F_spec_RuleBy_l2]
      obtain ⟨hd1, hd2⟩ := dec_spec (k := 3) hnd0 hs
      obtain ⟨f, ef⟩ : ∃ f, f = dec 3 (B.getD i []) s := ⟨_, rfl⟩
      rw [← ef] at hd1 hd2
      have hdg : F_spec_l29Digit (s : Int) 3 ((b1.length : Nat) : Int) = some ((f (V.getD i 0).toNat : Nat) : Int) := by
        have := l29Digit_eq (k := 3) (s := s) (a := b1.length) (by decide) (by decide) hl1
        rw [show ((3 : Nat) : Int) = 3 from rfl] at this
        rw [this, ← hd2, hb, cod_digit (by rw [← hb]; exact hd1)]
      have hout : F_spec_l29Out (s : Int) 3 ((b1.length : Nat) : Int) = some ((cod 3 (B.getD j []) f : Nat) : Int) := by
        have := l29Out_eq (k := 3) (s := s) (a := b1.length) (by decide) (by decide) hl1 (by omega)
        rw [show ((3 : Nat) : Int) = 3 from rfl] at this
        rw [this, ← hd2, hb, cod_out (by rw [← hb]; exact hd1), hbk]
      have hX : X s = if f (V.getD i 0).toNat = 1 then 1000 else kid.getD (cod 3 (B.getD j []) f) 0 := by show ite _ _ _ = _; rw [← ef]
      have hlen : ((List.range s).map X).length = s := by simp
      rw [cal_of (power3 (by omega)), if_pos (by omega), cal_of hdg]
      by_cases c : f (V.getD i 0).toNat = 1
      · rw [if_pos c] at hX
        rw [if_pos (by omega), app1_s (by omega), ck_of (inI (by omega) (by omega)), List.range_succ, List.map_append, ← hX]; rfl
      · rw [if_neg c] at hX
        have hcl := cod_lt (hfk hd1)
        rw [if_neg (by omega), getL_idx (by omega), hc]
        show idx rs (j : Int) _ = _
        rw [hrs, cal_of hout, getD_idx (by rw [hkid.len]; exact hcl), app1_s (by omega), ck_of (inI (by omega) (by omega)), List.range_succ, List.map_append, ← hX]; rfl
    · simp only [F_spec_RuleBy_l2]
      rw [cal_of (power3 (by omega)), if_neg (by omega)]
  · have hcl := cod_lt hf
    have hag := dec_cod3 hnd0 hf
    rw [show ((List.range (3 ^ (B.getD i []).length)).map X).getD (cod 3 (B.getD i []) f) 0 = X (cod 3 (B.getD i []) f) by rw [List.getD_eq_getElem?_getD, List.getElem?_map, List.getElem?_range hcl]; rfl]
    show IsV (ite _ _ _) _
    rw [hag (V.getD i 0) (by rw [hb]; simp), cod_congr (k := 3) (b := B.getD j []) (f' := f) (fun u hu => hag u (by rw [hb]; rw [hbk] at hu; simp at hu ⊢; rcases hu with h | h; exact .inl h; exact .inr (.inr h)))]
    by_cases c : f (V.getD i 0).toNat = 1
    · rw [if_pos c]
      exact IsV.none fun n hn => ((Rl_add hk hj hc _ _).1 hn).1 c
    · rw [if_neg c]
      refine (hkid.val f (hfk hf)).iff fun n => ?_
      rw [Rl_add hk hj hc]
      exact ⟨fun h => h.2, fun h => ⟨c, h⟩⟩
theorem rowR_drop (h : NiceIs g K V B C) (hl : ∀ x ∈ g, x.length ≤ 1048576) {i j : Nat} {b1 b2 : List Int} (hi : i < K.length) (hk : K.getD i 0 = 3) (hj : j < i) (hc : C.getD i [] = [(j : Int)]) (hv : 0 ≤ V.getD i 0 ∧ V.getD i 0 < g.length) (hbk : B.getD j [] = b1 ++ V.getD i 0 :: b2) (hb : B.getD i [] = b1 ++ b2) {kid : List Int} (hkid : RowR g K V B C j kid) :
    ∃ row, F_spec_l29Gone g kid (B.getD j []) (V.getD i 0) ((B.getD i []).length : Int) = some row ∧ RowR g K V B C i row := by
  have hndj := h.nodup (i := j) (by omega)
  have hnd := h.nodup hi
  have hb8 := (h.bag (i := j) (by omega)).1
  have hrj := (h.bag (i := j) (by omega)).2
  have hkl := hkid.len
  have hkm := hkid.mem h (by omega)
  rw [hbk] at hndj hb8 hkl hrj
  rw [hb] at hnd
  obtain ⟨row, h1, h2, h3⟩ := l29Gone_eq hl hv.1 hv.2 hb8 (fun u hu => (hrj.mem hu).1) hndj hkl hkm
  refine ⟨row, by rw [hbk, hb]; exact h1, by rw [hb]; exact h2, fun f hf => ?_⟩
  rw [hb] at hf ⊢
  have hV := h3 _ (cod_lt hf)
  have hsub : ∀ {f' : Nat → Nat}, (∀ u ∈ b1 ++ V.getD i 0 :: b2, f' u.toNat < 3) → ∀ u ∈ b1 ++ b2, f' u.toNat < 3 := fun hf' u hu => hf' u (by simp at hu ⊢; rcases hu with h | h; exact .inl h; exact .inr (.inr h))
  have hat : ∀ {t : Nat}, t < kid.length → IsV (kid.getD t 0) (Rl g K V B C j (dec 3 (b1 ++ V.getD i 0 :: b2) t)) := fun {t} ht => by
    have := hkid.at h (by omega) (t := t) (by rw [hbk, ← hkl]; exact ht)
    rwa [hbk] at this
  refine ⟨hV.lo, hV.hi, fun n hn => ?_, ?_⟩
  · obtain ⟨f', m, k1, k2, k3, k4, k5⟩ := (Rl_drop hk hj hc _ _).1 hn
    rw [hbk] at k1; rw [hb] at k2 k3
    have hcl := cod_lt k1
    have hag := dec_cod3 hndj k1
    have hagb : ∀ u ∈ b1 ++ b2, dec 3 (b1 ++ V.getD i 0 :: b2) (cod 3 (b1 ++ V.getD i 0 :: b2) f') u.toNat = f' u.toNat := fun u hu => hag u (by simp at hu ⊢; rcases hu with h | h; exact .inl h; exact .inr (.inr h))
    have hagv := hag (V.getD i 0) (by simp)
    have hk2 := (hkid.val f' (by rw [hbk]; exact k1)).le m k4
    rw [hbk] at hk2
    have hto : ∀ u ∈ b1 ++ b2, toF g (V.getD i 0) (dec 3 (b1 ++ V.getD i 0 :: b2) (cod 3 (b1 ++ V.getD i 0 :: b2) f')) u.toNat = f u.toNat := fun u hu => by
      rw [k3 u hu]; unfold toF addF; rw [hagb u hu, hagv]
    have := hV.le _ ⟨cod 3 (b1 ++ V.getD i 0 :: b2) f', by rw [hkl]; exact hcl, fun h0 => by
      rw [hagv] at h0
      exact (nearC_congr hagb _ _).2 (k2 h0), cod_congr hto, rfl⟩
    have e : flg (dec 3 (b1 ++ V.getD i 0 :: b2) (cod 3 (b1 ++ V.getD i 0 :: b2) f')) (V.getD i 0) = flg f' (V.getD i 0) := by unfold flg; rw [hagv]
    rw [e] at this
    omega
  · rcases hV.or with e | ⟨t, ht, a1, a2, a3⟩
    · exact .inl e
    · have hkt := hat ht
      obtain ⟨d1, d2⟩ := dec_spec (k := 3) hndj (s := t) (by rw [← hkl]; exact ht)
      have hfl : 0 ≤ flg (dec 3 (b1 ++ V.getD i 0 :: b2) t) (V.getD i 0) := by unfold flg; split <;> omega
      have h1 := hV.hi
      rcases hkt.or with e | e
      · left; omega
      · right
        rw [a3]
        refine (Rl_drop hk hj hc _ _).2 ⟨dec 3 (b1 ++ V.getD i 0 :: b2) t, _, by rw [hbk]; exact d1, by rw [hb]; exact a1, fun u hu => ?_, e, rfl⟩
        rw [hb] at hu
        exact (cod_inj (k := 3) (toF_valid (hsub d1)) hf a2 u hu).symm
theorem rowR_meet (h : NiceIs g K V B C) {i j l : Nat} (hi : i < K.length) (hk : K.getD i 0 = 4) (hj : j < i) (hl : l < i) (hc : C.getD i [] = [(j : Int), (l : Int)]) (hbk : B.getD j [] = B.getD i []) (hbl : B.getD l [] = B.getD i []) {x y : List Int} (hx : RowR g K V B C j x) (hy : RowR g K V B C l y) :
    ∃ row, F_spec_l29Meet x y ((B.getD i []).length : Int) = some row ∧ RowR g K V B C i row := by
  have hnd := h.nodup hi
  have hb8 := (h.bag hi).1
  have hxl := hx.len; have hyl := hy.len
  rw [hbk] at hxl; rw [hbl] at hyl
  obtain ⟨row, h1, h2, h3⟩ := l29Meet_eq hb8 hnd hxl hyl (hx.mem h (by omega)) (hy.mem h (by omega))
  refine ⟨row, h1, h2, fun f hf => ?_⟩
  have hV := h3 _ (cod_lt hf)
  refine ⟨hV.lo, hV.hi, fun n hn => ?_, ?_⟩
  · obtain ⟨p, q, m1, m2, k1, k2, k3, k4, k5, k6⟩ := (Rl_meet hk hj hl hc _ _).1 hn
    have hp := dec_cod3 hnd k1
    have hq := dec_cod3 hnd k2
    have hp2 := (hx.val p (by rw [hbk]; exact k1)).le m1 k4
    have hq2 := (hy.val q (by rw [hbl]; exact k2)).le m2 k5
    rw [hbk] at hp2; rw [hbl] at hq2
    have := hV.le _ ⟨cod 3 (B.getD i []) p, cod 3 (B.getD i []) q, .inl ⟨by rw [hxl]; exact cod_lt k1, by rw [hyl]; exact cod_lt k2⟩, ⟨fun u hu => by rw [hp u hu, hq u hu]; exact (k3 u hu).1, cod_congr fun u hu => by
      show max _ _ = _
      rw [hp u hu, hq u hu]; exact (k3 u hu).2.symm⟩, rfl⟩
    omega
  · rcases hV.or with e | ⟨s, t, hst, ⟨a1, a2⟩, a3⟩
    · exact .inl e
    · have hs : s < x.length ∧ t < y.length := by omega
      have h4 := hx.at h (by omega) (t := s) (by rw [hbk, ← hxl]; exact hs.1)
      have h5 := hy.at h (by omega) (t := t) (by rw [hbl, ← hyl]; exact hs.2)
      rw [hbk] at h4; rw [hbl] at h5
      have l4 := h4.lo; have l5 := h5.lo
      have hh := hV.hi
      rcases h4.or with e4 | e4
      · left; omega
      · rcases h5.or with e5 | e5
        · left; omega
        · right
          obtain ⟨d1, d2⟩ := dec_spec (k := 3) hnd (s := s) (by rw [← hxl]; exact hs.1)
          obtain ⟨d3, d4⟩ := dec_spec (k := 3) hnd (s := t) (by rw [← hyl]; exact hs.2)
          rw [a3]
          exact (Rl_meet hk hj hl hc _ _).2 ⟨_, _, _, _, d1, d3, fun u hu => ⟨a1 u hu, (cod_inj (k := 3) (mx_lt d1 d3) hf a2 u hu).symm⟩, e4, e5, rfl⟩
theorem rule_step (h : NiceIs g K V B C) (hl : ∀ x ∈ g, x.length ≤ 1048576) {i : Nat} (hi : i < K.length) (h6 : (B.getD i []).length ≤ 6) {rs : List (List Int)} (hlen : rs.length = i) (hrs : ∀ j, j < i → RowR g K V B C j (rs.getD j [])) :
    ∃ row, F_spec_RuleBy_l1 g K V B C rs (i : Int) = some (.inl (rs ++ [row], ((i + 1 : Nat) : Int))) ∧ RowR g K V B C i row := by
  have hm := h.2.1
  have hV : V.length = K.length := h.2.2.1
  have hB : B.length = K.length := h.2.2.2.1
  have hC : C.length = K.length := h.2.2.2.2.1
  have hid : ∀ {j : Nat}, j < i → ∀ {β : Type} (q : List Int → Option β), idx rs (j : Int) q = q (rs.getD j []) := fun {j} hj {β} q => getL_idx (by omega) q
  have h0 : ∀ {β : Type} (x : Int) (r : List Int) (q : Int → Option β), idx (x :: r) 0 q = q x := fun x r q => rfl
  have h1 : ∀ {β : Type} (x y : Int) (r : List Int) (q : Int → Option β), idx (x :: y :: r) 1 q = q y := fun x y r q => rfl
  unfold F_spec_RuleBy_l1
  rw [if_pos (by omega), getL_idx (by omega), if_neg (by omega), getD_idx hi]
  cases h.node hi with
  | leaf hk hb hc =>
    refine ⟨[0], ?_, by rw [hb]; rfl, fun f hf => ?_⟩
    · rw [if_pos hk, app1_s (by simp), List.nil_append, app1_s (by omega), ck_of (inI (by omega) (by omega))]; rfl
    · rw [hb]
      show IsV 0 _
      exact ⟨by decide, by decide, fun n hn => by rw [Rl_leaf hk] at hn; omega, .inr ((Rl_leaf hk _ _).2 rfl)⟩
  | add hk j hj hc hv b1 b2 hb hbk =>
    have hnd := h.nodup hi
    rw [hb] at hnd
    have hat : F_spec_l29At (B.getD i []) (V.getD i 0) = some ((b1.length : Nat) : Int) := by rw [hb]; exact l29At_eq (fun u hu e => (List.pairwise_append.1 hnd).2.2 u hu (V.getD i 0) (by simp) (by rw [e])) (by rw [hb, List.length_append] at h6; omega)
    obtain ⟨row, e1, e2⟩ := rowR_add h hi hk hj hc hb hbk h6 (rs := rs) (hid hj) (hrs j hj)
    refine ⟨row, ?_, e2⟩
    rw [if_neg (by omega), if_pos hk, getD_idx (by omega), cal_of hat, e1, bnd_inl_eq]
    unfold F_spec_RuleBy_k3
    simp only
    rw [app1_s (by omega), ck_of (inI (by omega) (by omega))]; rfl
  | drop hk j hj hc hv b1 b2 hbk hb =>
    obtain ⟨row, e1, e2⟩ := rowR_drop h hl hi hk hj hc hv hbk hb (hrs j hj)
    refine ⟨row, ?_, e2⟩
    rw [if_neg (by omega), if_neg (by omega), if_pos hk, getL_idx (by omega), hc, h0, hid hj, getL_idx (by omega), hc, h0, getL_idx (by omega), getD_idx (by omega), cal_of e1, app1_s (by omega), ck_of (inI (by omega) (by omega))]; rfl
  | meet hk j l hj hl2 hc hbk hbl =>
    obtain ⟨row, e1, e2⟩ := rowR_meet h hi hk hj hl2 hc hbk hbl (hrs j hj) (hrs l hl2)
    refine ⟨row, ?_, e2⟩
    rw [if_neg (by omega), if_neg (by omega), if_neg (by omega), if_pos hk, getL_idx (by omega), hc, h0, hid hj, getL_idx (by omega), hc, h1, hid hl2, cal_of e1, app1_s (by omega), ck_of (inI (by omega) (by omega))]; rfl
end
end Go.Proofs.Ytnebbhginakaiaa

/- Laws whose arguments hold a nice tree: its size, its copies. -/
namespace Go.Proofs.Ytnebbhginakaiaa
abbrev NiceD := List Int × List Int × List (List Int) × List (List Int)
structure NiceLen (d : NiceD) : Prop where
  l0 : d.1.length ≤ 1048576
  l1 : d.2.1.length ≤ 1048576
  l2 : d.2.2.1.length ≤ 1048576
  l3 : d.2.2.2.length ≤ 1048576
  r2 : ∀ x ∈ d.2.2.1, x.length ≤ 1048576
  r3 : ∀ x ∈ d.2.2.2, x.length ≤ 1048576
theorem szNice_ex (d : NiceD) (m0 : Int) (h0 : 0 ≤ m0) (h1 : m0 ≤ 1048576) (hd : Sz.ok d) : ∃ m, F_laws_szNice d.1 d.2.1 d.2.2.1 d.2.2.2 m0 = some m ∧ (m < 0 ∨ (0 ≤ m ∧ m ≤ m0 ∧ NiceLen d ∧ True)) := by
  unfold F_laws_szNice
  rw [cal_of (szInt64S_eq d.1 m0 (by omega) (by omega) hd.1)]
  obtain ⟨m1, hm1⟩ : ∃ m1, less m0 d.1.length = m1 := ⟨_, rfl⟩
  rw [hm1]
  by_cases c1 : m1 < 0
  · rw [if_pos c1]; exact ⟨_, rfl, .inl (by decide)⟩
  rw [if_neg c1]
  have b1 : m1 ≤ m0 ∧ (d.1.length : Int) ≤ 1048576 := by unfold less at hm1; split at hm1 <;> omega
  rw [cal_of (szInt64S_eq d.2.1 m1 (by omega) (by omega) hd.2.1)]
  obtain ⟨m2, hm2⟩ : ∃ m2, less m1 d.2.1.length = m2 := ⟨_, rfl⟩
  rw [hm2]
  by_cases c2 : m2 < 0
  · rw [if_pos c2]; exact ⟨_, rfl, .inl (by decide)⟩
  rw [if_neg c2]
  have b2 : m2 ≤ m1 ∧ (d.2.1.length : Int) ≤ 1048576 := by unfold less at hm2; split at hm2 <;> omega
  obtain ⟨m3, hm3, h3⟩ := szInt64SS_eq d.2.2.1 m2 (by omega) (by omega) hd.2.2.1
  rw [cal_of hm3]
  rcases h3 with h3 | ⟨b3, e3, l3, r3⟩
  · rw [if_pos h3]; exact ⟨_, rfl, .inl (by decide)⟩
  rw [if_neg (by omega)]
  obtain ⟨m4, hm4, h4⟩ := szInt64SS_eq d.2.2.2 m3 (by omega) (by omega) hd.2.2.2
  rw [cal_of hm4]
  rcases h4 with h4 | ⟨b4, e4, l4, r4⟩
  · rw [if_pos h4]; exact ⟨_, rfl, .inl (by decide)⟩
  rw [if_neg (by omega)]
  exact ⟨_, rfl, .inr ⟨by omega, by omega, ⟨by omega, by omega, by omega, by omega, fun x hx => by have := r3 x hx; omega, fun x hx => by have := r4 x hx; omega⟩, trivial⟩⟩
theorem toNice_eq (d : NiceD) (h : NiceLen d) : F_laws_toNice d.1 d.2.1 d.2.2.1 d.2.2.2 = some (d.1, d.2.1, d.2.2.1, d.2.2.2) := by
  obtain ⟨l0, l1, l2, l3, r2, r3⟩ := h
  unfold F_laws_toNice
  rw [cal_of (toInt64S_eq d.1 (by omega)), cal_of (toInt64S_eq d.2.1 (by omega)), cal_of (toInt64SS_eq d.2.2.1 (by omega) (fun x hx => by have := r2 x hx; omega)), cal_of (toInt64SS_eq d.2.2.2 (by omega) (fun x hx => by have := r3 x hx; omega))]
theorem eqNice_self (d : NiceD) (h : NiceLen d) : F_laws_eqNice d.1 d.2.1 d.2.2.1 d.2.2.2 d.1 d.2.1 d.2.2.1 d.2.2.2 = some true := by
  obtain ⟨l0, l1, l2, l3, r2, r3⟩ := h
  unfold F_laws_eqNice
  rw [cal_of (eqInt64S_eq d.1 d.1 (by omega)), if_neg (by simp), cal_of (eqInt64S_eq d.2.1 d.2.1 (by omega)), if_neg (by simp), cal_of (eqInt64SS_eq d.2.2.1 d.2.2.1 (by omega) (fun x hx => by have := r2 x hx; omega)), if_neg (by simp), cal_of (eqInt64SS_eq d.2.2.2 d.2.2.2 (by omega) (fun x hx => by have := r3 x hx; omega)), if_neg (by simp)]
end Go.Proofs.Ytnebbhginakaiaa

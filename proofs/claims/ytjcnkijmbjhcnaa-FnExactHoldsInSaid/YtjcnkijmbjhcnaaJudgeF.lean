/- Formulas: the names free in a node, which nodes are large, and that the reference finds what a node says. -/
import Derived.Test.YtjcnkijmbjhcnaaJudge
namespace Go.Proofs.Ytjcnkijmbjhcnaa
def fb (a : List (BitVec 32)) (k i : Nat) : Bool := (a.getD k 0#32).toNat.testBit i
structure ClW (a : List (BitVec 32)) (x : Int × Int × Int) (s : BitVec 32) : Prop where
  c12 : x.1 = 1 ∨ x.1 = 2 → s.toNat.testBit x.2.1.toNat = true ∧ s.toNat.testBit x.2.2.toNat = true
  c3 : x.1 = 3 → s.toNat.testBit x.2.1.toNat = true ∧ s.toNat.testBit (3 + x.2.2.toNat) = true
  c4 : x.1 = 4 → ∀ i, fb a x.2.1.toNat i = true → s.toNat.testBit i = true
  c56 : x.1 = 5 ∨ x.1 = 6 → ∀ i, fb a x.2.1.toNat i = true ∨ fb a x.2.2.toNat i = true → s.toNat.testBit i = true
  c7 : x.1 = 7 → ∀ i, i ≠ x.2.1.toNat → fb a x.2.2.toNat i = true → s.toNat.testBit i = true
  c8 : x.1 = 8 → ∀ i, i ≠ 3 + x.2.1.toNat → fb a x.2.2.toNat i = true → s.toNat.testBit i = true
theorem fb_snoc {a : List (BitVec 32)} {s : BitVec 32} {k i : Nat} (h : k < a.length) : fb (a ++ [s]) k i = fb a k i := by
  unfold fb; rw [List.getD_eq_getElem?_getD, List.getD_eq_getElem?_getD, List.getElem?_append_left h]
def Cl (a : List (BitVec 32)) (k : Nat) (x : Int × Int × Int) : Prop := ClW a x (a.getD k 0#32)
theorem ClW.snoc {a : List (BitVec 32)} {k : Nat} {x : Int × Int × Int} {s t : BitVec 32} (hk : k ≤ a.length) (hf : FK k x) (h : ClW a x s) : ClW (a ++ [t]) x s := by
  refine ⟨h.c12, h.c3, fun e i hi => ?_, fun e i hi => ?_, fun e i hn hi => ?_, fun e i hn hi => ?_⟩
  all_goals cases hf
  all_goals first
    | omega
    | skip
  · rw [fb_snoc (by omega)] at hi; exact h.c4 e i hi
  · rw [fb_snoc (by omega), fb_snoc (by omega)] at hi; exact h.c56 e i hi
  · rw [fb_snoc (by omega), fb_snoc (by omega)] at hi; exact h.c56 e i hi
  · rw [fb_snoc (by omega)] at hi; exact h.c7 e i hn hi
  · rw [fb_snoc (by omega)] at hi; exact h.c8 e i hn hi
theorem getD_snoc {a : List (BitVec 32)} {s : BitVec 32} {j : Nat} (h : j < a.length) : (a ++ [s]).getD j 0#32 = a.getD j 0#32 := by
  rw [List.getD_eq_getElem?_getD, List.getD_eq_getElem?_getD, List.getElem?_append_left h]
theorem getD_snocL {a : List (BitVec 32)} {s : BitVec 32} {k : Nat} (h : a.length = k) : (a ++ [s]).getD k 0#32 = s := by
  subst h; rw [List.getD_eq_getElem?_getD]; simp
theorem bit_one {v : Nat} (h : v < 32) : (BitVec.ofNat 32 (2 ^ v)).toNat = 2 ^ v := by rw [bv_toNat (Nat.pow_lt_pow_right (by decide) h)]
theorem bit_two {A B : Nat} (hA : A < 32) (hB : B < 32) : (BitVec.ofNat 32 (2 ^ A) ||| BitVec.ofNat 32 (2 ^ B)).toNat.testBit A = true ∧ (BitVec.ofNat 32 (2 ^ A) ||| BitVec.ofNat 32 (2 ^ B)).toNat.testBit B = true := by
  rw [BitVec.toNat_or, bit_one hA, bit_one hB]
  simp [Nat.testBit_or, Nat.testBit_two_pow_self]
theorem bit_less {s : BitVec 32} {A i : Nat} (hA : A < 32) (hi : s.toNat.testBit i = true) (hn : i ≠ A) : (s &&& ~~~ BitVec.ofNat 32 (2 ^ A)).toNat.testBit i = true := by
  have := bit_lt s.isLt hi
  rw [BitVec.toNat_and, Nat.testBit_and, hi, testBit_not32, bit_one hA, Nat.testBit_two_pow_of_ne (fun h => hn h.symm)]
  simp [this]
def FrI (f : List (Int × Int × Int)) (k : Nat) (a : List (BitVec 32)) : Prop := a.length = k ∧ ∀ j, j < k → ∀ x, f[j]? = some x → Cl a j x
theorem FrI.snoc {f : List (Int × Int × Int)} {k : Nat} {a : List (BitVec 32)} {s : BitVec 32} {x : Int × Int × Int} (hf : ∀ (j : Nat) (y : Int × Int × Int), f[j]? = some y → FK j y) (h : FrI f k a) (hx : f[k]? = some x) (hs : ClW a x s) : FrI f (k + 1) (a ++ [s]) := by
  obtain ⟨h1, h2⟩ := h
  refine ⟨by simp [h1], fun j hj y hy => ?_⟩
  unfold Cl
  by_cases e : j = k
  · subst e
    rw [getD_snocL h1]
    rw [hx] at hy; cases hy
    exact hs.snoc (by omega) (hf _ _ hx)
  · rw [getD_snoc (by omega)]
    exact (h2 j (by omega) y hy).snoc (by omega) (hf _ _ hy)
theorem fk_all {f : List (Int × Int × Int)} (hf : formulaOk f = true) (j : Nat) (y : Int × Int × Int) (h : f[j]? = some y) : FK j y := by
  obtain ⟨hj, rfl⟩ := List.getElem?_eq_some_iff.1 h
  exact factOk_fk ((formulaOk_iff.1 hf).2 j hj)
theorem idxD {β : Type} {a : List (BitVec 32)} {A : Int} {g : BitVec 32 → Option β} (h0 : 0 ≤ A) (h : A.toNat < a.length) : idx a A g = g (a.getD A.toNat 0#32) :=
  idx_of h0 (by rw [List.getD_eq_getElem?_getD, List.getElem?_eq_getElem h]; rfl)
theorem one_int {A : Int} (h0 : 0 ≤ A) (h : A < 32) : F_impl_one A = some (BitVec.ofNat 32 (2 ^ A.toNat)) := by
  have := one_eq (v := A.toNat) (by omega); rwa [Int.toNat_of_nonneg h0] at this
theorem freeIn_eq {f : List (Int × Int × Int)} (hf : formulaOk f = true) : ∃ fr, F_impl_freeIn f = some fr ∧ FrI f f.length fr := by
  have hl := (formulaOk_iff.1 hf).1
  have key := lp_ex (step := fun s => F_impl_freeIn_l1 f s.1 s.2) (fun k (a : List (BitVec 32)) => (a, (k : Int))) f.length (fun k a => FrI f k a) (fun o => ∃ fr, o = .inl fr ∧ FrI f f.length fr) (fun k a hk hI => ?_) (fun a hI => ?_) f.length 0 [] (by omega) ⟨rfl, fun j hj => by omega⟩
  · obtain ⟨o, h1, fr, rfl, h2⟩ := key
    refine ⟨fr, ?_, h2⟩
    have h1' : lp (fun s => F_impl_freeIn_l1 f s.1 s.2) (([] : List (BitVec 32)), 0) = some (.inl fr) := h1
    unfold F_impl_freeIn
    rw [bnd_l h1']; rfl
  · obtain ⟨x, hx⟩ : ∃ x, f[k]? = some x := ⟨_, List.getElem?_eq_getElem hk⟩
    have hK := fk_all hf k x hx
    have hlen := hI.1
    suffices hh : ∃ s, F_impl_freeIn_l1 f a (k : Int) = some (.inl (a ++ [s], (k : Int) + 1)) ∧ ClW a x s by
      obtain ⟨s, h1, h2⟩ := hh
      exact ⟨a ++ [s], by rw [h1]; rfl, hI.snoc (fk_all hf) hx h2⟩
    unfold F_impl_freeIn_l1
    rw [if_pos (by omega), idx_of (Int.natCast_nonneg _) (by rw [Int.toNat_natCast]; exact hx)]
    cases hK with
    | edge h a0 a1 b0 b1 =>
      refine ⟨_, ?_, ⟨fun _ => bit_two (A := x.2.1.toNat) (B := x.2.2.toNat) (by omega) (by omega), fun e => by omega, fun e => by omega, fun e => by omega, fun e => by omega, fun e => by omega⟩⟩
      rw [if_pos h, bnd_inl_eq]; unfold F_impl_freeIn_k2
      rw [if_pos (by simp [h]), cal_of (one_int a0 (by omega)), cal_of (one_int b0 (by omega)), app1_s (by omega), ck_of (inI (by omega) (by omega))]
    | same h a0 a1 b0 b1 =>
      refine ⟨_, ?_, ⟨fun _ => bit_two (A := x.2.1.toNat) (B := x.2.2.toNat) (by omega) (by omega), fun e => by omega, fun e => by omega, fun e => by omega, fun e => by omega, fun e => by omega⟩⟩
      rw [if_neg (by omega), bnd_inl_eq]; unfold F_impl_freeIn_k2
      rw [if_pos (by simp [h]), cal_of (one_int a0 (by omega)), cal_of (one_int b0 (by omega)), app1_s (by omega), ck_of (inI (by omega) (by omega))]
    | isin h a0 a1 b0 b1 =>
      refine ⟨_, ?_, ⟨fun e => by omega, fun _ => bit_two (A := x.2.1.toNat) (B := 3 + x.2.2.toNat) (by omega) (by omega), fun e => by omega, fun e => by omega, fun e => by omega, fun e => by omega⟩⟩
      rw [if_neg (by omega), bnd_inl_eq]; unfold F_impl_freeIn_k2
      rw [if_neg (by simp; omega), if_pos h, cal_of (one_int a0 (by omega)), ck_of (inI (by omega) (by omega)), cal_of (one_int (by omega) (by omega)), app1_s (by omega), ck_of (inI (by omega) (by omega)), show (3 + x.2.2).toNat = 3 + x.2.2.toNat by omega]
    | nott h a0 a1 =>
      refine ⟨a.getD x.2.1.toNat 0#32, ?_, ⟨fun e => by omega, fun e => by omega, fun _ i hi => hi, fun e => by omega, fun e => by omega, fun e => by omega⟩⟩
      rw [if_neg (by omega), bnd_inl_eq]; unfold F_impl_freeIn_k2
      rw [if_neg (by simp; omega), if_neg (by omega), if_pos h, idxD a0 (by omega), app1_s (by omega), ck_of (inI (by omega) (by omega))]
    | andd h a0 a1 b0 b1 =>
      refine ⟨a.getD x.2.1.toNat 0#32 ||| a.getD x.2.2.toNat 0#32, ?_, ⟨fun e => by omega, fun e => by omega, fun e => by omega, fun _ i hi => ?_, fun e => by omega, fun e => by omega⟩⟩
      · rw [if_neg (by omega), bnd_inl_eq]; unfold F_impl_freeIn_k2
        rw [if_neg (by simp; omega), if_neg (by omega), if_neg (by omega), if_pos h, bnd_inl_eq]; unfold F_impl_freeIn_k3
        rw [if_pos (by simp [h]), idxD a0 (by omega), idxD b0 (by omega), app1_s (by omega), ck_of (inI (by omega) (by omega))]
      · rw [BitVec.toNat_or, Nat.testBit_or, Bool.or_eq_true]; exact hi
    | orr h a0 a1 b0 b1 =>
      refine ⟨a.getD x.2.1.toNat 0#32 ||| a.getD x.2.2.toNat 0#32, ?_, ⟨fun e => by omega, fun e => by omega, fun e => by omega, fun _ i hi => ?_, fun e => by omega, fun e => by omega⟩⟩
      · rw [if_neg (by omega), bnd_inl_eq]; unfold F_impl_freeIn_k2
        rw [if_neg (by simp; omega), if_neg (by omega), if_neg (by omega), if_neg (by omega), bnd_inl_eq]; unfold F_impl_freeIn_k3
        rw [if_pos (by simp [h]), idxD a0 (by omega), idxD b0 (by omega), app1_s (by omega), ck_of (inI (by omega) (by omega))]
      · rw [BitVec.toNat_or, Nat.testBit_or, Bool.or_eq_true]; exact hi
    | ex h a0 a1 b0 b1 =>
      refine ⟨a.getD x.2.2.toNat 0#32 &&& ~~~ BitVec.ofNat 32 (2 ^ x.2.1.toNat), ?_, ⟨fun e => by omega, fun e => by omega, fun e => by omega, fun e => by omega, fun _ i hn hi => bit_less (by omega) hi hn, fun e => by omega⟩⟩
      rw [if_neg (by omega), bnd_inl_eq]; unfold F_impl_freeIn_k2
      rw [if_neg (by simp; omega), if_neg (by omega), if_neg (by omega), if_neg (by omega), bnd_inl_eq]; unfold F_impl_freeIn_k3
      rw [if_neg (by simp; omega), if_pos h, idxD b0 (by omega), cal_of (one_int a0 (by omega)), app1_s (by omega), ck_of (inI (by omega) (by omega))]
    | exs h a0 a1 b0 b1 =>
      refine ⟨a.getD x.2.2.toNat 0#32 &&& ~~~ BitVec.ofNat 32 (2 ^ (3 + x.2.1.toNat)), ?_, ⟨fun e => by omega, fun e => by omega, fun e => by omega, fun e => by omega, fun e => by omega, fun _ i hn hi => bit_less (by omega) hi hn⟩⟩
      rw [if_neg (by omega), bnd_inl_eq]; unfold F_impl_freeIn_k2
      rw [if_neg (by simp; omega), if_neg (by omega), if_neg (by omega), if_neg (by omega), bnd_inl_eq]; unfold F_impl_freeIn_k3
      rw [if_neg (by simp; omega), if_neg (by omega), if_pos h, idxD b0 (by omega), ck_of (inI (by omega) (by omega)), cal_of (one_int (by omega) (by omega)), app1_s (by omega), ck_of (inI (by omega) (by omega)), show (3 + x.2.1).toNat = 3 + x.2.1.toNat by omega]
  · refine ⟨.inl a, ?_, a, rfl, hI⟩
    show F_impl_freeIn_l1 f a (f.length : Int) = _
    unfold F_impl_freeIn_l1; rw [if_neg (by omega)]
theorem idxI {β : Type} {a : List Int} {A : Int} {g : Int → Option β} (h0 : 0 ≤ A) (h : A.toNat < a.length) : idx a A g = g a[A.toNat] :=
  idx_of h0 (List.getElem?_eq_getElem h)
theorem largeIn_len {f : List (Int × Int × Int)} (hf : formulaOk f = true) : ∃ lg, F_impl_largeIn f = some lg ∧ lg.length = f.length := by
  have hl := (formulaOk_iff.1 hf).1
  have key := lp_ex (step := fun s => F_impl_largeIn_l1 f s.1 s.2.1 s.2.2) (fun k (a : List Bool × List Int) => (a.1, a.2, (k : Int))) f.length (fun k a => a.1.length = k ∧ a.2.length = k ∧ ∀ x ∈ a.2, 0 ≤ x ∧ x ≤ 10000) (fun o => ∃ lg, o = .inl lg ∧ lg.length = f.length) (fun k a hk hI => ?_) (fun a hI => ?_) f.length 0 ([], []) (by omega) ⟨rfl, rfl, fun x hx => by cases hx⟩
  · obtain ⟨o, h1, lg, rfl, h2⟩ := key
    refine ⟨lg, ?_, h2⟩
    have h1' : lp (fun s => F_impl_largeIn_l1 f s.1 s.2.1 s.2.2) (([] : List Bool), ([] : List Int), 0) = some (.inl lg) := h1
    unfold F_impl_largeIn
    rw [bnd_l h1']; rfl
  · obtain ⟨x, hx⟩ : ∃ x, f[k]? = some x := ⟨_, List.getElem?_eq_getElem hk⟩
    have hK := fk_all hf k x hx
    obtain ⟨l, z⟩ := a
    obtain ⟨i1, i2, i3⟩ := hI
    simp only at i1 i2 i3
    have hz : ∀ (y : Int), 0 ≤ y → y ≤ k - 1 → ∃ w, (∀ (β : Type) (g : Int → Option β), idx z y g = g w) ∧ 0 ≤ w ∧ w ≤ 10000 := fun y h0 h1 =>
      ⟨z[y.toNat]'(by omega), fun β g => idxI h0 (by omega), i3 _ (List.getElem_mem _)⟩
    suffices hh : ∃ (b : Bool) (s : Int), F_impl_largeIn_l1 f l z (k : Int) = some (.inl (l ++ [b], z ++ [s], (k : Int) + 1)) ∧ 0 ≤ s ∧ s ≤ 10000 by
      obtain ⟨b, s, h1, h2⟩ := hh
      refine ⟨(l ++ [b], z ++ [s]), by simp only; rw [h1]; rfl, by simp [i1], by simp [i2], fun y hy => ?_⟩
      rcases List.mem_append.1 hy with h | h
      · exact i3 _ h
      · rw [List.mem_singleton] at h; subst h; exact h2
    unfold F_impl_largeIn_l1
    rw [if_pos (by omega), idx_of (Int.natCast_nonneg _) (by rw [Int.toNat_natCast]; exact hx)]
    have both : (x.1 = 5 ∨ x.1 = 6) → 0 ≤ x.2.1 → x.2.1 ≤ k - 1 → 0 ≤ x.2.2 → x.2.2 ≤ k - 1 → ∃ (b : Bool) (s : Int), F_impl_largeIn_k2 l z (k : Int) x true = some (.inl (l ++ [b], z ++ [s], (k : Int) + 1)) ∧ 0 ≤ s ∧ s ≤ 10000 := fun h a0 a1 b0 b1 => by
      obtain ⟨wa, ea, ha⟩ := hz _ a0 a1
      obtain ⟨wb, eb, hb⟩ := hz _ b0 b1
      refine ⟨decide (10000 ≤ 1 + (wa + wb)), min (1 + (wa + wb)) 10000, ?_, by omega, by omega⟩
      unfold F_impl_largeIn_k2
      rw [if_pos rfl, ea, eb, ck_of (inI (by omega) (by omega)), ck_of (inI (by omega) (by omega)), app1_s (by omega), app1_s (by omega), ck_of (inI (by omega) (by omega))]
    have none' : ∃ (b : Bool) (s : Int), F_impl_largeIn_k2 l z (k : Int) x false = some (.inl (l ++ [b], z ++ [s], (k : Int) + 1)) ∧ 0 ≤ s ∧ s ≤ 10000 := by
      refine ⟨false, min 1 10000, ?_, by omega, by omega⟩
      unfold F_impl_largeIn_k2
      rw [if_neg (by simp), app1_s (by omega), app1_s (by omega), ck_of (inI (by omega) (by omega))]; rfl
    by_cases h4 : x.1 = 4
    · rw [if_pos h4]
      cases hK with
      | nott h a0 a1 =>
        obtain ⟨wa, ea, ha⟩ := hz _ a0 a1
        refine ⟨decide (10000 ≤ 1 + wa), min (1 + wa) 10000, ?_, by omega, by omega⟩
        rw [ea, ck_of (inI (by omega) (by omega)), app1_s (by omega), app1_s (by omega), ck_of (inI (by omega) (by omega))]
      | _ => omega
    rw [if_neg h4]
    by_cases h5 : x.1 = 5
    · rw [if_pos h5, bnd_inl_eq, decide_eq_true h5]
      cases hK with
      | andd h a0 a1 b0 b1 => exact both (.inl h5) a0 a1 b0 b1
      | _ => omega
    rw [if_neg h5, bnd_inl_eq]
    by_cases h6 : x.1 = 6
    · rw [decide_eq_true h6]
      cases hK with
      | orr h a0 a1 b0 b1 => exact both (.inr h6) a0 a1 b0 b1
      | _ => omega
    rw [decide_eq_false h6]
    exact none'
  · refine ⟨.inl a.1, ?_, a.1, rfl, hI.1⟩
    show F_impl_largeIn_l1 f a.1 a.2 (f.length : Int) = _
    unfold F_impl_largeIn_l1; rw [if_neg (by omega)]
theorem sat_agree {a : List Nat} {f : List (Int × Int × Int)} {fr : List (BitVec 32)} (hf : formulaOk f = true) (hfr : FrI f f.length fr) : ∀ (k : Nat) (v s v' s' : Nat → Nat), k < f.length →
    (∀ i, i < 3 → fb fr k i = true → v i = v' i) → (∀ i, i < 2 → fb fr k (3 + i) = true → s i = s' i) → sat a f k v s = sat a f k v' s' := by
  intro k
  induction k using Nat.strongRecOn with
  | _ k ih =>
    intro v s v' s' hk hv hs
    obtain ⟨x, hx⟩ : ∃ x, f[k]? = some x := ⟨_, List.getElem?_eq_getElem hk⟩
    have hc : Cl fr k x := hfr.2 k hk x hx
    cases fk_all hf k x hx with
    | edge h a0 a1 b0 b1 =>
      have := hc.c12 (.inl h)
      rw [sat1 hx h, sat1 hx h, hv _ (by omega) this.1, hv _ (by omega) this.2]
    | same h a0 a1 b0 b1 =>
      have := hc.c12 (.inr h)
      rw [sat2 hx h, sat2 hx h, hv _ (by omega) this.1, hv _ (by omega) this.2]
    | isin h a0 a1 b0 b1 =>
      have := hc.c3 h
      rw [sat3 hx h, sat3 hx h, hv _ (by omega) this.1, hs _ (by omega) this.2]
    | nott h a0 a1 =>
      have c := hc.c4 h
      rw [sat4 hx h (by omega), sat4 hx h (by omega), ih _ (by omega) v s v' s' (by omega) (fun i hi hb => hv i hi (c i hb)) (fun i hi hb => hs i hi (c _ hb))]
    | andd h a0 a1 b0 b1 =>
      have c := hc.c56 (.inl h)
      rw [sat5 hx h (by omega) (by omega), sat5 hx h (by omega) (by omega), ih x.2.1.toNat (by omega) v s v' s' (by omega) (fun i hi hb => hv i hi (c i (.inl hb))) (fun i hi hb => hs i hi (c _ (.inl hb))),
        ih x.2.2.toNat (by omega) v s v' s' (by omega) (fun i hi hb => hv i hi (c i (.inr hb))) (fun i hi hb => hs i hi (c _ (.inr hb)))]
    | orr h a0 a1 b0 b1 =>
      have c := hc.c56 (.inr h)
      rw [sat6 hx h (by omega) (by omega), sat6 hx h (by omega) (by omega), ih x.2.1.toNat (by omega) v s v' s' (by omega) (fun i hi hb => hv i hi (c i (.inl hb))) (fun i hi hb => hs i hi (c _ (.inl hb))),
        ih x.2.2.toNat (by omega) v s v' s' (by omega) (fun i hi hb => hv i hi (c i (.inr hb))) (fun i hi hb => hs i hi (c _ (.inr hb)))]
    | ex h a0 a1 b0 b1 =>
      have c := hc.c7 h
      rw [sat7 hx h (by omega), sat7 hx h (by omega)]
      congr 1; funext i
      refine ih _ (by omega) _ _ _ _ (by omega) (fun j hj hb => ?_) (fun j hj hb => hs j hj (c _ (by omega) hb))
      unfold updN
      by_cases e : j = x.2.1.toNat
      · rw [if_pos e, if_pos e]
      · rw [if_neg e, if_neg e]; exact hv j hj (c j e hb)
    | exs h a0 a1 b0 b1 =>
      have c := hc.c8 h
      rw [sat8 hx h (by omega), sat8 hx h (by omega)]
      congr 1; funext i
      refine ih _ (by omega) _ _ _ _ (by omega) (fun j hj hb => hv j hj (c _ (by omega) hb)) (fun j hj hb => ?_)
      unfold updN
      by_cases e : j = x.2.1.toNat
      · rw [if_pos e, if_pos e]
      · rw [if_neg e, if_neg e]; exact hs j hj (c _ (by omega) hb)
end Go.Proofs.Ytjcnkijmbjhcnaa

/- Plain texts: BitF, SetF, Count, Tab, MatchCount, Parts, RotF, RotH, RotT, RotU, RotV, RotX, RotI, RotY, RotZ, RotZa, RotZb, RotJ, RotK. -/
import Derived.Test.YtmaaloijdjnblaaGreatDoorF
import Derived.Test.YtmaaloijdjnblaaGreatDoorP1
/- Sets of vertices in the program (32 bits) and in the reference (64 bits with a sign): both are the same natural number. -/
namespace Go.Proofs.YtmaaloijdjnblaaGreatDoor
def ints (l : List Nat) : List Int := l.map fun (v : Nat) => (v : Int)
def bvs (l : List Nat) : List (BitVec 32) := l.map (BitVec.ofNat 32)
def nb (g : List (List Int)) : List Nat := g.map mk
theorem ints_len (l : List Nat) : (ints l).length = l.length := by simp [ints]
theorem bvs_len (l : List Nat) : (bvs l).length = l.length := by simp [bvs]
theorem nb_len (g : List (List Int)) : (nb g).length = g.length := by simp [nb]
theorem ints_get {l : List Nat} {k : Nat} (h : k < (ints l).length) : (ints l)[k] = ((l[k]'(by simpa [ints] using h) : Nat) : Int) := by simp [ints]
theorem bvs_get {l : List Nat} {k : Nat} (h : k < (bvs l).length) : (bvs l)[k] = BitVec.ofNat 32 (l[k]'(by simpa [bvs] using h)) := by simp [bvs]
theorem ints_snoc (l : List Nat) (v : Nat) : ints l ++ [(v : Int)] = ints (l ++ [v]) := by simp [ints]
theorem idx_ints {β : Type} {l : List Nat} {k : Nat} {f : Int → Option β} (h : k < l.length) : idx (ints l) (k : Int) f = f ((l[k] : Nat) : Int) := by
  rw [idx_nat (by rw [ints_len]; exact h), ints_get]
theorem idx_bvs {β : Type} {l : List Nat} {k : Nat} {f : BitVec 32 → Option β} (h : k < l.length) : idx (bvs l) (k : Int) f = f (BitVec.ofNat 32 l[k]) := by
  rw [idx_nat (by rw [bvs_len]; exact h), bvs_get]
/-! ## good graphs -/
theorem GOk.row_mem {g : List (List Int)} (hg : GOk g) {v : Nat} (h : v < g.length) {x : Int} (hx : x ∈ g[v]) : 0 ≤ x ∧ x < g.length := (hg.rows v h).1.mem hx
theorem nb_lt {g : List (List Int)} (hg : GOk g) {v : Nat} (h : v < (nb g).length) : (nb g)[v] < 2 ^ g.length := by
  have h' : v < g.length := by rwa [nb_len] at h
  have : (nb g)[v] = mk g[v] := by simp [nb]
  rw [this]
  exact mk_lt fun x hx => hg.row_mem h' hx
theorem pow16 {n : Nat} (h : n ≤ 16) : 2 ^ n ≤ 2 ^ 16 := Nat.pow_le_pow_right (by decide) h
theorem nb_lt16 {g : List (List Int)} (hg : GOk g) {v : Nat} (h : v < (nb g).length) : (nb g)[v] < 2 ^ 16 := Nat.lt_of_lt_of_le (nb_lt hg h) (pow16 hg.n16)
theorem Rises.lt {s : List Int} {n : Nat} (h : Rises s n) : mk s < 2 ^ n := mk_lt fun v hv => by have := h.mem hv; omega
theorem GOk.row_len {g : List (List Int)} (hg : GOk g) {v : Nat} (h : v < g.length) : g[v].length ≤ 16 := by
  have h1 := (hg.rows v h).1.len (by omega)
  have h2 := hg.n16
  omega
theorem tz_eq {n : Nat} (h : n ≠ 0) (hn : n < 2 ^ 32) : F_math_bits_TrailingZeros32 (BitVec.ofNat 32 n) = some (low n : Int) := by
  have hl := low_lt h hn
  unfold F_math_bits_TrailingZeros32
  have h0 : ¬ BitVec.ofNat 32 n = 0#32 := fun e => h ((bv_inj hn (by decide)).1 e)
  rw [if_neg h0, bv_lowbit h hn]
  have hd := deBruijn_at (low n) hl
  rw [idx_of (Int.natCast_nonneg _) (by rw [Int.toNat_natCast]; exact hd), BitVec.toNat_ofNat, Nat.mod_eq_of_lt (by omega)]
theorem least_eq {n : Nat} (h : n ≠ 0) (hn : n < 2 ^ 32) : F_impl_vset_least (BitVec.ofNat 32 n) = some (low n : Int) := by unfold F_impl_vset_least; rw [tz_eq h hn]; rfl
theorem list_eq {n : Nat} (hn : n < 2 ^ 16) : F_impl_vset_list (BitVec.ofNat 32 n) = some (ints (els n)) := by
  unfold F_impl_vset_list
  have key : ∀ n : Nat, n < 2 ^ 16 → ∀ l : List Nat, l.length + (els n).length ≤ 16 → lp (fun s => F_impl_vset_list_l1 s.1 s.2) (BitVec.ofNat 32 n, ints l) = some (.inl (ints (l ++ els n))) := by
    intro n
    induction n using Nat.strongRecOn with
    | _ n ih =>
      intro hn l hl
      rw [lp_unfold]
      by_cases h : n = 0
      · subst h; simp [els_zero, F_impl_vset_list_l1]
      · have h0 : BitVec.ofNat 32 n ≠ 0#32 := fun e => h ((bv_inj (by omega) (by decide)).1 e)
        have e := els_cons h hn
        rw [e, List.length_cons] at hl
        have hs : F_impl_vset_list_l1 (BitVec.ofNat 32 n) (ints l) = some (.inl (BitVec.ofNat 32 (n &&& (n - 1)), ints (l ++ [low n]))) := by
          unfold F_impl_vset_list_l1
          rw [if_pos h0, least_eq h (by omega), cal_some_eq, app1_s (by rw [ints_len]; omega), bv_rest h (by omega), ints_snoc]
        simp only [hs]
        rw [ih _ (rest_lt h) (Nat.lt_trans (rest_lt h) hn) _ (by simp; omega), e, List.append_assoc]; rfl
  have := key n hn [] (by have := els_len_le n; simp; omega)
  rw [show ints [] = [] from rfl] at this
  rw [bnd_l this]; rfl
theorem one_eq {v : Nat} (h : v < 32) : F_impl_one (v : Int) = some (BitVec.ofNat 32 (2 ^ v)) := by
  unfold F_impl_one; rw [grd_of (Int.natCast_nonneg _), Int.toNat_natCast, bv_shl h]
theorem maskOf_eq {s : List Int} (h : ∀ v ∈ s, 0 ≤ v ∧ v < 32) (hl : s.length ≤ 1048576) : F_impl_maskOf s = some (BitVec.ofNat 32 (mk s)) := by
  unfold F_impl_maskOf
  have key := lp_fold (step := fun s' => F_impl_maskOf_l1 s s'.1 s'.2) s (fun b v => b ||| BitVec.ofNat 32 (2 ^ v.toNat)) 0#32 (fun _ => True) (o := .inl (BitVec.ofNat 32 (mk s))) trivial (fun k hk a _ => ⟨?_, trivial⟩) ?_
  · rw [bnd_l key]; rfl
  · have hm := h _ (List.getElem_mem hk)
    obtain ⟨m, hm2⟩ := Int.eq_ofNat_of_zero_le hm.1
    simp only [F_impl_maskOf_l1]
    rw [if_pos (by omega), idx_nat hk, hm2, one_eq (by omega), cal_some_eq, ck_of (inI (by omega) (by omega))]; rfl
  · intro a ha
    simp only [F_impl_maskOf_l1]
    have e : ∀ (s : List Int) (b : Nat), s.foldl (fun b v => b ||| BitVec.ofNat 32 (2 ^ v.toNat)) (BitVec.ofNat 32 b) = BitVec.ofNat 32 (s.foldl (fun (b : Nat) (v : Int) => b ||| 2 ^ v.toNat) b) := by
      intro s
      induction s with
      | nil => intro b; rfl
      | cons v s ih => intro b; rw [List.foldl_cons, List.foldl_cons, bv_or, ih]
    rw [if_neg (by omega), ha]
    have := e s 0
    rw [this]; rfl
theorem netsOf_eq {g : List (List Int)} (hg : GOk g) : F_impl_netsOf g = some (bvs (nb g)) := by
  unfold F_impl_netsOf
  have h16 := hg.n16
  have key := lp_map (step := fun s' => F_impl_netsOf_l1 g s'.1 s'.2) g (fun r => BitVec.ofNat 32 (mk r)) (o := .inl (bvs (nb g))) (fun k hk l hl => ?_) ?_
  · rw [bnd_l key]; rfl
  · have hr := hg.row_len hk
    simp only [F_impl_netsOf_l1]
    rw [if_pos (by omega), idx_nat hk, maskOf_eq (fun v hv => by have := hg.row_mem hk hv; omega) (by omega), cal_some_eq, app1_s (by omega), ck_of (inI (by omega) (by omega))]; rfl
  · simp only [F_impl_netsOf_l1]
    rw [if_neg (by omega)]
    have : List.map (fun r => BitVec.ofNat 32 (mk r)) g = bvs (nb g) := by simp [bvs, nb]
    rw [this]
theorem all_eq {a : List Nat} (h : a.length ≤ 16) : F_impl_nets_all (bvs a) = some (BitVec.ofNat 32 (2 ^ a.length - 1)) := by
  have h1 : 2 ^ a.length ≤ 2 ^ 16 := pow16 h
  have h2 : 0 < 2 ^ a.length := Nat.two_pow_pos _
  unfold F_impl_nets_all F_impl_firstOf
  rw [bvs_len, grd_of (Int.natCast_nonneg _), Int.toNat_natCast, bv_shl (by omega), bv_sub_one h2 (by omega)]; rfl
theorem l25Mask_eq {s : List Int} (h : ∀ v ∈ s, 0 ≤ v ∧ v < 62) (hl : s.length ≤ 1048576) : F_spec_l25Mask s = some (mk s : Int) := by
  unfold F_spec_l25Mask
  have key := lp_fold (step := fun s' => F_spec_l25Mask_l1 s s'.1 s'.2) s (fun b v => i64or b (1 * 2 ^ v.toNat)) 0 (fun a => ∃ n : Nat, n < 2 ^ 62 ∧ a = n) (o := .inl (mk s : Int)) ⟨0, by decide, rfl⟩ (fun k hk a hp => ?_) ?_
  · rw [bnd_l key]; rfl
  · have hm := h _ (List.getElem_mem hk)
    obtain ⟨m, hm2⟩ := Int.eq_ofNat_of_zero_le hm.1
    obtain ⟨n, hn, rfl⟩ := hp
    have hp : 2 ^ m < 2 ^ 62 := Nat.pow_lt_pow_right (by decide) (by omega)
    simp only [F_spec_l25Mask_l1]
    rw [if_pos (by omega), idx_nat hk, hm2, grd_of (Int.natCast_nonneg _), Int.toNat_natCast, two_pow_nat, ck_of (inI_nat hp), ck_of (inI (by omega) (by omega))]
    exact ⟨rfl, n ||| 2 ^ m, or_lt hn hp, i64or_nat (by omega) (by omega)⟩
  · intro a ha
    simp only [F_spec_l25Mask_l1]
    have e : ∀ (s : List Int) (b : Nat), b < 2 ^ 62 → (∀ v ∈ s, 0 ≤ v ∧ v < 62) → s.foldl (fun b v => i64or b (1 * 2 ^ v.toNat)) (b : Int) = ((s.foldl (fun (b : Nat) (v : Int) => b ||| 2 ^ v.toNat) b : Nat) : Int) := by
      intro s
      induction s with
      | nil => intro b _ _; rfl
      | cons v s ih =>
        intro b hb hv
        have h1 := hv v (List.mem_cons_self ..)
        have hp : 2 ^ v.toNat < 2 ^ 62 := Nat.pow_lt_pow_right (by decide) (by omega)
        rw [List.foldl_cons, List.foldl_cons, two_pow_nat, i64or_nat (by omega) (by omega), ih _ (or_lt hb hp) (fun w hw => hv w (List.mem_cons_of_mem _ hw))]
    rw [if_neg (by omega), ha]
    have := e s 0 (by decide) h
    rw [show (0 : Int) = ((0 : Nat) : Int) from rfl, this]; rfl
theorem pop_at : ∀ b, b < 256 → popTab[b]? = some (BitVec.ofNat 8 ((List.range 8).countP (fun i => b.testBit i))) := by decide +kernel
theorem card_bytes {n : Nat} (hn : n < 2 ^ 16) : card n = (List.range 8).countP (fun i => (n / 256).testBit i) + (List.range 8).countP (fun i => (n % 256).testBit i) := by
  unfold card els
  rw [← List.countP_eq_length_filter, show List.range 16 = List.range 8 ++ (List.range 8).map (8 + ·) by decide, List.countP_append, List.countP_map, Nat.add_comm]
  congr 1
  · apply List.countP_congr
    intro i hi
    simp only [Function.comp_apply, show (256 : Nat) = 2 ^ 8 from rfl, Nat.testBit_div_two_pow]
    rw [Nat.add_comm]
  · apply List.countP_congr
    intro i hi
    rw [List.mem_range] at hi
    rw [show (256 : Nat) = 2 ^ 8 from rfl, Nat.testBit_mod_two_pow]; simp [hi]
theorem pop_eq {n : Nat} (hn : n < 2 ^ 16) : F_math_bits_OnesCount32 (BitVec.ofNat 32 n) = some (card n : Int) := by
  unfold F_math_bits_OnesCount32
  have e0 : (BitVec.ofNat 32 n).toNat = n := bv_toNat (by omega)
  have e1 : (BitVec.ofNat 32 n >>> (24 : Int).toNat).toNat = 0 := by
    rw [BitVec.toNat_ushiftRight, e0, Nat.shiftRight_eq_div_pow]
    exact Nat.div_eq_of_lt (Nat.lt_trans hn (by decide))
  have e2 : (BitVec.ofNat 32 n >>> (16 : Int).toNat &&& 255#32).toNat = 0 := by
    rw [BitVec.toNat_and, BitVec.toNat_ushiftRight, e0, Nat.shiftRight_eq_div_pow]
    show n / 2 ^ 16 &&& 255 = 0
    rw [Nat.div_eq_of_lt hn]; rfl
  have h255 : ∀ a : Nat, a &&& 255 = a % 256 := fun a => Nat.and_two_pow_sub_one_eq_mod a 8
  have e3 : (BitVec.ofNat 32 n >>> (8 : Int).toNat &&& 255#32).toNat = n / 256 := by
    rw [BitVec.toNat_and, BitVec.toNat_ushiftRight, e0, Nat.shiftRight_eq_div_pow]
    show n / 2 ^ 8 &&& 255 = n / 256
    rw [h255]; omega
  have e4 : (BitVec.ofNat 32 n &&& 255#32).toNat = n % 256 := by
    rw [BitVec.toNat_and, e0]; exact h255 n
  have c1 := List.countP_le_length (p := fun i => (n / 256).testBit i) (l := List.range 8)
  have c2 := List.countP_le_length (p := fun i => (n % 256).testBit i) (l := List.range 8)
  rw [List.length_range] at c1 c2
  rw [e1, e2, e3, e4, card_bytes hn]
  rw [idx_of (Int.natCast_nonneg _) (pop_at 0 (by omega)), idx_of (Int.natCast_nonneg _) (pop_at 0 (by omega)), idx_of (Int.natCast_nonneg _) (by rw [Int.toNat_natCast]; exact pop_at (n / 256) (by omega)),
    idx_of (Int.natCast_nonneg _) (by rw [Int.toNat_natCast]; exact pop_at (n % 256) (by omega))]
  congr 2
  generalize (List.range 8).countP (fun i => (n / 256).testBit i) = a at *
  generalize (List.range 8).countP (fun i => (n % 256).testBit i) = b at *
  rw [show (List.range 8).countP (fun i => (0 : Nat).testBit i) = 0 by decide]
  simp only [BitVec.toNat_add, BitVec.toNat_ofNat]
  omega
theorem size_eq {n : Nat} (hn : n < 2 ^ 16) : F_impl_vset_size (BitVec.ofNat 32 n) = some (card n : Int) := by unfold F_impl_vset_size; rw [pop_eq hn]; rfl
end Go.Proofs.YtmaaloijdjnblaaGreatDoor

/- What the reference and the program ask of sets of vertices: stable, clique, ruling. -/
namespace Go.Proofs.YtmaaloijdjnblaaGreatDoor
def each (n s : Nat) (p : Nat → Bool) : Bool := (List.range n).all fun v => !s.testBit v || p v
theorem getD_get {a : List Nat} {v : Nat} (h : v < a.length) : a.getD v 0 = a[v] := by simp [h]
theorem els_range {n s : Nat} (hn : n ≤ 16) (hs : s < 2 ^ n) : els s = (List.range n).filter (fun v => s.testBit v) := by
  have h16 : s < 2 ^ 16 := Nat.lt_of_lt_of_le hs (pow16 hn)
  refine sorted_ext (els_sorted s) (List.Pairwise.sublist List.filter_sublist List.pairwise_lt_range) fun x => ?_
  rw [mem_els h16, List.mem_filter, List.mem_range]
  exact ⟨fun h => ⟨bit_lt hs h, h⟩, fun h => h.2⟩
structure Sym (a : List Nat) : Prop where
  lt : ∀ v (h : v < a.length), a[v] < 2 ^ a.length
  irr : ∀ v (h : v < a.length), a[v].testBit v = false
  sym : ∀ u v (hu : u < a.length) (hv : v < a.length), a[u].testBit v = a[v].testBit u
theorem nbs_sym {g : List (List Int)} (hg : GOk g) : Sym (nb g) := by
  have hb : ∀ (u v : Nat) (hu : u < g.length), (nb g)[u]'(by rw [nb_len]; exact hu) = mk g[u] := by intro u v hu; simp [nb]
  have hm : ∀ u (hu : u < g.length) v, (mk g[u]).testBit v = decide ((v : Int) ∈ g[u]) := fun u hu v => mk_mem (fun x hx => (hg.row_mem hu hx).1) v
  refine ⟨fun v h => by rw [nb_len]; exact nb_lt hg h, fun v h => ?_, fun u v hu hv => ?_⟩
  · rw [nb_len] at h
    rw [hb v v h, hm v h, decide_eq_false (hg.rows v h).2]
  · rw [nb_len] at hu hv
    rw [hb u v hu, hb v u hv, hm u hu, hm v hv, decide_eq_decide]
    constructor
    · intro h; have := hg.sym u hu _ h (by simpa using hv); simpa using this
    · intro h; have := hg.sym v hv _ h (by simpa using hu); simpa using this
end Go.Proofs.YtmaaloijdjnblaaGreatDoor

/- Counting sets: loops over all sets, one to one. -/
namespace Go.Proofs.YtmaaloijdjnblaaGreatDoor
theorem countP_snoc (k : Nat) (p : Nat → Bool) : (List.range (k + 1)).countP p = (List.range k).countP p + (if p k = true then 1 else 0) := by
  rw [List.range_succ, List.countP_append]; simp [List.countP_cons]
end Go.Proofs.YtmaaloijdjnblaaGreatDoor

/- Tables over all sets: the value of a set out of those without its least member, and without a neighbour of it. -/
namespace Go.Proofs.YtmaaloijdjnblaaGreatDoor
section
variable (a : List Nat) (e0 : Int) (of : Int → List Int → Int)
end
end Go.Proofs.YtmaaloijdjnblaaGreatDoor

/- How many matchings there are: the reference's table. -/
namespace Go.Proofs.YtmaaloijdjnblaaGreatDoor
theorem l27Low_eq {n : Nat} (h : n ≠ 0) (hn : n < 2 ^ 62) : F_spec_l27Low (n : Int) = some (low n : Int) := by
  have hl := low_lt h hn
  unfold F_spec_l27Low
  have key : lp (fun s => F_spec_l27Low_l1 (n : Int) s) 0 = some (.inl (low n : Int)) := by
    refine lp_upto (fun k => (k : Int)) (low n) rfl (fun k hk => ?_) ?_
    · simp only [F_spec_l27Low_l1]
      rw [grd_of (Int.natCast_nonneg _), Int.toNat_natCast, bit_asked (by omega), low_least h hk, if_pos (by simp), ck_of (inI (by omega) (by omega))]; rfl
    · simp only [F_spec_l27Low_l1]
      rw [grd_of (Int.natCast_nonneg _), Int.toNat_natCast, bit_asked (by omega), low_bit h, if_neg (by simp)]
  rw [bnd_l key]; rfl
end Go.Proofs.YtmaaloijdjnblaaGreatDoor

/- What is reached from a vertex among some, and the parts of some vertices. -/
namespace Go.Proofs.YtmaaloijdjnblaaGreatDoor
section
variable {S O A : Type}
theorem lp_inl {step : S → Option (S ⊕ O)} {s s' : S} (h : step s = some (.inl s')) : lp step s = lp step s' := by rw [lp_unfold, h]
theorem lp_inr {step : S → Option (S ⊕ O)} {s : S} {o : O} (h : step s = some (.inr o)) : lp step s = some o := by rw [lp_unfold, h]
theorem lp_ex {step : S → Option (S ⊕ O)} (st : Nat → A → S) (n : Nat) (Inv : Nat → A → Prop) (Q : O → Prop) (h : ∀ k a, k < n → Inv k a → ∃ a', step (st k a) = some (.inl (st (k + 1) a')) ∧ Inv (k + 1) a')
    (he : ∀ a, Inv n a → ∃ o, step (st n a) = some (.inr o) ∧ Q o) : ∀ (m k : Nat) (a : A), k + m = n → Inv k a → ∃ o, lp step (st k a) = some o ∧ Q o
  | 0, k, a, hk, hi => by
    have e : k = n := by omega
    subst e
    obtain ⟨o, h1, h2⟩ := he a hi
    exact ⟨o, lp_inr h1, h2⟩
  | m + 1, k, a, hk, hi => by
    obtain ⟨a', h1, h2⟩ := h k a (by omega) hi
    obtain ⟨o, h3, h4⟩ := lp_ex st n Inv Q h he m (k + 1) a' (by omega) h2
    exact ⟨o, by rw [lp_inl h1, h3], h4⟩
end
def SubB (s t : Nat) : Prop := ∀ j, s.testBit j = true → t.testBit j = true
theorem SubB.antisymm {s t : Nat} (h : SubB s t) (h' : SubB t s) : s = t := bits_ext fun j => by
  cases e : s.testBit j with
  | true => exact (h j e).symm
  | false => cases e2 : t.testBit j with
    | false => rfl
    | true => rw [h' j e2] at e; cases e
theorem SubB.le {s t : Nat} (h : SubB s t) : s ≤ t := by
  have e : s = t &&& s := bits_ext fun j => by
    rw [Nat.testBit_and]
    cases e : s.testBit j with
    | true => rw [h j e]; rfl
    | false => simp
  rw [e]; exact Nat.and_le_left
theorem SubB.refl (s : Nat) : SubB s s := fun _ h => h
theorem SubB.trans {s t u : Nat} (h : SubB s t) (h' : SubB t u) : SubB s u := fun j hj => h' j (h j hj)
theorem SubB.or_left (s t : Nat) : SubB s (s ||| t) := fun j h => by rw [Nat.testBit_or, h]; rfl
theorem SubB.or {s t u : Nat} (h : SubB s u) (h' : SubB t u) : SubB (s ||| t) u := fun j hj => by
  rw [Nat.testBit_or, Bool.or_eq_true] at hj
  exact hj.elim (h j) (h' j)
def Shut (a : List Nat) (i t : Nat) : Prop := ∀ u, t.testBit u = true → SubB (a.getD u 0 &&& i) t
open Classical in
noncomputable def reach (a : List Nat) (i v : Nat) : Nat := mk (ints ((List.range 16).filter fun w => decide (∀ t, t < 2 ^ 16 → t.testBit v = true → Shut a i t → t.testBit w = true)))
open Classical in
theorem reach_bit {a : List Nat} {i v w : Nat} : (reach a i v).testBit w = true ↔ w < 16 ∧ ∀ t, t < 2 ^ 16 → t.testBit v = true → Shut a i t → t.testBit w = true := by
  unfold reach
  rw [mk_bit, decide_eq_true_iff]
  constructor
  · rintro ⟨x, hx, rfl⟩
    unfold ints at hx
    obtain ⟨u, hu, rfl⟩ := List.mem_map.1 hx
    rw [List.mem_filter, List.mem_range, decide_eq_true_iff] at hu
    simpa using hu
  · rintro ⟨h1, h2⟩
    exact ⟨(w : Int), List.mem_map.2 ⟨w, List.mem_filter.2 ⟨List.mem_range.2 h1, by simpa using h2⟩, rfl⟩, by simp⟩
theorem reach_lt (a : List Nat) (i v : Nat) : reach a i v < 2 ^ 16 := by
  unfold reach
  refine mk_lt fun x hx => ?_
  unfold ints at hx
  obtain ⟨u, hu, rfl⟩ := List.mem_map.1 hx
  have := List.mem_range.1 (List.mem_filter.1 hu).1
  omega
theorem reach_self {a : List Nat} {i v : Nat} (hv : v < 16) : (reach a i v).testBit v = true := reach_bit.2 ⟨hv, fun t _ h _ => h⟩
theorem reach_least {a : List Nat} {i v t : Nat} (ht : t < 2 ^ 16) (hv : t.testBit v = true) (hc : Shut a i t) : SubB (reach a i v) t := fun w hw => (reach_bit.1 hw).2 t ht hv hc
theorem reach_closed {a : List Nat} {i v : Nat} (hi : i < 2 ^ 16) : Shut a i (reach a i v) := fun u hu w hw => by
  refine reach_bit.2 ⟨bit_lt hi (by rw [Nat.testBit_and, Bool.and_eq_true] at hw; exact hw.2), fun t ht hv hc => hc u ((reach_bit.1 hu).2 t ht hv hc) w hw⟩
theorem reach_in {a : List Nat} {i v : Nat} (hi : i < 2 ^ 16) (hv : i.testBit v = true) : SubB (reach a i v) i := reach_least hi hv fun u _ w hw => by rw [Nat.testBit_and, Bool.and_eq_true] at hw; exact hw.2
theorem reach_eq_of {a : List Nat} {i v s : Nat} (hs : s < 2 ^ 16) (hv : s.testBit v = true) (hin : SubB s (reach a i v)) (hc : Shut a i s) : s = reach a i v := SubB.antisymm hin (reach_least hs hv hc)
theorem sub_lt {s t : Nat} (h : SubB s t) (ht : t < 2 ^ 16) : s < 2 ^ 16 := Nat.lt_of_le_of_lt h.le ht
theorem sub_step {a : List Nat} {i v s u : Nat} (hi : i < 2 ^ 16) (hin : SubB s (reach a i v)) (hu : s.testBit u = true) : SubB (a.getD u 0 &&& i) (reach a i v) := reach_closed hi u (hin u hu)
theorem sdiff_zero {s t : Nat} : sdiff s t = 0 ↔ SubB s t := by
  constructor
  · intro h j hj
    have : (sdiff s t).testBit j = false := by rw [h, Nat.zero_testBit]
    rw [sdiff_bit, hj] at this
    simpa using this
  · intro h
    apply bits_ext; intro j
    rw [sdiff_bit, Nat.zero_testBit]
    cases e : s.testBit j with
    | true => rw [h j e]; rfl
    | false => rfl
theorem lt_or_of_new {s t : Nat} (h : ¬ SubB t s) : s < s ||| t := by
  have h1 := (SubB.or_left s t).le
  rcases Nat.lt_or_ge s (s ||| t) with g | g
  · exact g
  · exact absurd (fun j hj => by have e : s ||| t = s := by omega
                                 rw [← e, Nat.testBit_or, hj]; simp) h
theorem l25Many_eq {n : Nat} (hn : n < 2 ^ 16) : F_spec_l25Many (n : Int) = some (card n : Int) := by
  have key : ∀ (n : Nat), n < 2 ^ 16 → ∀ c : Nat, c + card n ≤ 1000 → lp (fun s => F_spec_l25Many_l1 s.1 s.2) ((n : Int), (c : Int)) = some (.inl ((c + card n : Nat) : Int)) := by
    intro n
    induction n using Nat.strongRecOn with
    | _ n ih =>
      intro hn c hc
      by_cases h0 : n = 0
      · subst h0
        refine lp_inr ?_
        simp only [F_spec_l25Many_l1]
        rw [if_neg (by decide), card_zero, Nat.add_zero]
      · have hr := rest_lt h0
        have hc2 := card_cons h0 hn
        have st : F_spec_l25Many_l1 (n : Int) (c : Int) = some (.inl (((n &&& (n - 1) : Nat) : Int), ((c + 1 : Nat) : Int))) := by
          unfold F_spec_l25Many_l1
          rw [if_pos (by omega), ck_of (inI (by omega) (by omega)), ck_of (inI (by omega) (by omega)), show (n : Int) - 1 = ((n - 1 : Nat) : Int) by omega, i64and_nat (by omega) (by omega)]; rfl
        rw [lp_inl (step := fun s => F_spec_l25Many_l1 s.1 s.2) st, ih _ hr (by omega) (c + 1) (by omega), hc2]; congr 3; omega
  have h16 := els_len_le n
  have := key n hn 0 (by unfold card; omega)
  unfold F_spec_l25Many
  rw [show ((0 : Nat) : Int) = 0 from rfl, Nat.zero_add] at this
  rw [bnd_l this]; rfl
theorem l27Part_eq {a : List Nat} {i v : Nat} (ha : a.length ≤ 16) (hb : ∀ v (h : v < a.length), a[v] < 2 ^ 16) (hi : i < 2 ^ a.length) (hv : i.testBit v = true) : F_spec_l27Part (ints a) (v : Int) (i : Int) = some (reach a i v : Int) := by
  have hp16 := pow16 ha
  have hi16 : i < 2 ^ 16 := by omega
  have hvn : v < a.length := bit_lt hi hv
  have h2v : 2 ^ v < 2 ^ 62 := Nat.pow_lt_pow_right (by decide) (by omega)
  have hR := reach_lt a i v
  have hRi := reach_in (a := a) hi16 hv
  unfold F_spec_l27Part
  rw [grd_of (Int.natCast_nonneg _), Int.toNat_natCast, two_pow_nat, ck_of (inI_nat h2v)]
  -- a round
  have round : ∀ p : Nat, SubB p (reach a i v) → p.testBit v = true → ∃ p' : Nat, ∃ t : Bool, lp (fun s => F_spec_l27Part_l2 (ints a) (i : Int) s.1 s.2.1 s.2.2) ((p : Int), false, 0) = some (.inl ((p' : Int), t)) ∧ SubB p' (reach a i v) ∧ SubB p p' ∧ (t = true → p < p') ∧ (t = false → p' = p ∧ Shut a i p) := by
    intro p hp hpv
    have := lp_ex (step := fun s => F_spec_l27Part_l2 (ints a) (i : Int) s.1 s.2.1 s.2.2) (fun (k : Nat) (x : Nat × Bool) => ((x.1 : Int), x.2, (k : Int))) a.length
      (fun k x => SubB x.1 (reach a i v) ∧ SubB p x.1 ∧ (x.2 = true → p < x.1) ∧ (x.2 = false → x.1 = p ∧ ∀ u, u < k → p.testBit u = true → SubB (a.getD u 0 &&& i) p)) 
      (fun o => ∃ p' : Nat, ∃ t : Bool, o = .inl ((p' : Int), t) ∧ SubB p' (reach a i v) ∧ SubB p p' ∧ (t = true → p < p') ∧ (t = false → p' = p ∧ Shut a i p)) ?_ ?_ a.length 0 (p, false) (by omega) ⟨hp, SubB.refl p, fun h => (by cases h), fun _ => ⟨rfl, fun u hu => (by omega)⟩⟩
    · obtain ⟨o, h1, p', t, rfl, h2⟩ := this
      exact ⟨p', t, h1, h2⟩
    · rintro k ⟨q, t⟩ hk ⟨q1, q2, q3, q4⟩
      simp only at q1 q2 q3 q4 ⊢
      have hq := sub_lt q1 hR
      have hbk := hb k hk
      have hgk := getD_get hk
      unfold F_spec_l27Part_l2
      rw [if_pos (by rw [ints_len]; omega), grd_of (Int.natCast_nonneg _), Int.toNat_natCast, bit_asked (by omega)]
      cases e1 : q.testBit k with
      | false =>
        rw [if_neg (by simp), ck_of (inI (by omega) (by omega))]
        refine ⟨(q, t), rfl, q1, q2, q3, fun ht => ⟨(q4 ht).1, fun u hu hb2 => ?_⟩⟩
        by_cases e2 : u = k
        · subst e2; rw [← (q4 ht).1, e1] at hb2; cases hb2
        · exact (q4 ht).2 u (by omega) hb2
      | true =>
        have hand : a[k] &&& i < 2 ^ 16 := and_lt hbk
        rw [if_pos (by simp), idx_ints hk, i64and_nat (by omega) (by omega), i64andn_nat (by omega) (by omega)]
        by_cases e2 : SubB (a[k] &&& i) q
        · rw [if_neg (by rw [sdiff_zero.2 e2]; simp), ck_of (inI (by omega) (by omega))]
          refine ⟨(q, t), rfl, q1, q2, q3, fun ht => ⟨(q4 ht).1, fun u hu hb2 => ?_⟩⟩
          by_cases e3 : u = k
          · subst e3; rw [hgk, ← (q4 ht).1]; exact e2
          · exact (q4 ht).2 u (by omega) hb2
        · have hne : sdiff (a[k] &&& i) q ≠ 0 := fun h => e2 (sdiff_zero.1 h)
          rw [if_pos (by omega), idx_ints hk, ck_of (inI (by omega) (by omega)), i64and_nat (by omega) (by omega), i64or_nat (by omega) (by omega)]
          have h3 : SubB (a[k] &&& i) (reach a i v) := by rw [← hgk]; exact sub_step hi16 q1 e1
          exact ⟨(q ||| (a[k] &&& i), true), rfl, SubB.or q1 h3, SubB.trans q2 (SubB.or_left _ _), fun _ => Nat.lt_of_le_of_lt q2.le (lt_or_of_new e2), fun h => by cases h⟩
    · rintro ⟨q, t⟩ ⟨q1, q2, q3, q4⟩
      simp only at q1 q2 q3 q4 ⊢
      unfold F_spec_l27Part_l2
      rw [if_neg (by rw [ints_len]; omega)]
      refine ⟨_, rfl, q, t, rfl, q1, q2, q3, fun ht => ⟨(q4 ht).1, fun u hu => ?_⟩⟩
      exact (q4 ht).2 u (bit_lt (Nat.lt_of_le_of_lt (SubB.le (SubB.trans hp hRi)) hi) hu) hu
  have key : ∀ (m p : Nat), 2 ^ 16 - p = m → SubB p (reach a i v) → p.testBit v = true → lp (fun s => F_spec_l27Part_l1 (ints a) (i : Int) s.1 s.2) ((p : Int), true) = some (.inl (reach a i v : Int)) := by
    intro m
    induction m using Nat.strongRecOn with
    | _ m ih =>
      intro p hm hp hpv
      obtain ⟨p', t, h1, h2, h3, h4, h5⟩ := round p hp hpv
      have hp16' := sub_lt h2 hR
      have st : F_spec_l27Part_l1 (ints a) (i : Int) (p : Int) true = some (.inl ((p' : Int), t)) := by
        unfold F_spec_l27Part_l1
        rw [if_pos rfl, bnd_l h1]; rfl
      rw [lp_inl (step := fun s => F_spec_l27Part_l1 (ints a) (i : Int) s.1 s.2) st]
      cases t with
      | true => exact ih _ (by have := h4 rfl; omega) p' rfl h2 (h3 v hpv)
      | false =>
        obtain ⟨e, hc⟩ := h5 rfl
        subst e
        refine lp_inr ?_
        simp only [F_spec_l27Part_l1]
        rw [if_neg (by simp), reach_eq_of hp16' hpv hp hc]
  rw [bnd_l (key _ (2 ^ v) rfl (fun j hj => ?_) (Nat.testBit_two_pow_self ..))]
  · rfl
  · rw [Nat.testBit_two_pow] at hj
    have e : v = j := by simpa using hj
    subst e; exact reach_self (by omega)
theorem reach_low {a : List Nat} {i : Nat} (h : i ≠ 0) (hi : i < 2 ^ 16) : (reach a i (low i)).testBit (low i) = true := reach_self (low_lt h hi)
theorem sdiff_reach_lt {a : List Nat} {i : Nat} (h : i ≠ 0) (hi : i < 2 ^ 16) : sdiff i (reach a i (low i)) < i := by
  have h1 := sdiff_le i (reach a i (low i))
  rcases Nat.lt_or_ge (sdiff i (reach a i (low i))) i with g | g
  · exact g
  · have e : sdiff i (reach a i (low i)) = i := by omega
    have h2 : (sdiff i (reach a i (low i))).testBit (low i) = true := by rw [e]; exact low_bit h
    rw [sdiff_bit, reach_low h hi] at h2
    simp at h2
end Go.Proofs.YtmaaloijdjnblaaGreatDoor

/- The reference's faces: as many as the cycles. -/
namespace Go.Proofs.YtmaaloijdjnblaaGreatDoor
structure Sn (n : Nat) (s : List Bool) (V : List (Int × Int)) : Prop where
  len : s.length = n * n
  iff : ∀ p q : Nat, p < n → q < n → (s.getD (p * n + q) false = true ↔ ((p : Int), (q : Int)) ∈ V)
theorem pq_lt {n p q : Nat} (hp : p < n) (hq : q < n) : p * n + q < n * n := by
  have : p * n + n ≤ n * n := by rw [← Nat.succ_mul]; exact Nat.mul_le_mul_right _ hp
  omega
theorem pq_inj {n p q a b : Nat} (hq : q < n) (hb : b < n) (h : p * n + q = a * n + b) : p = a ∧ q = b := by
  have h1 : (p * n + q) / n = p := by rw [Nat.mul_comm, Nat.mul_add_div (by omega), Nat.div_eq_of_lt hq]; rfl
  have h2 : (a * n + b) / n = a := by rw [Nat.mul_comm, Nat.mul_add_div (by omega), Nat.div_eq_of_lt hb]; rfl
  have : p = a := by rw [← h1, h, h2]
  subst this; exact ⟨rfl, by omega⟩
theorem Sn.set {n : Nat} {s : List Bool} {V : List (Int × Int)} (h : Sn n s V) {p q : Nat} (hp : p < n) (hq : q < n) : Sn n (s.set (p * n + q) true) (V ++ [((p : Int), (q : Int))]) where
  len := by rw [List.length_set]; exact h.len
  iff a b ha hb := by
    have hl := h.len; have := pq_lt hp hq
    rw [List.mem_append, List.mem_singleton, ← h.iff a b ha hb]
    by_cases e : a = p ∧ b = q
    · obtain ⟨rfl, rfl⟩ := e
      simp [List.getD_eq_getElem?_getD, hl, this]
    · have hne : p * n + q ≠ a * n + b := fun g => e (by have := pq_inj hq hb g; exact ⟨this.1.symm, this.2.symm⟩)
      rw [List.getD_eq_getElem?_getD, List.getElem?_set_ne hne, ← List.getD_eq_getElem?_getD]
      constructor
      · exact .inl
      · rintro (g | g)
        · exact g
        · simp only [Prod.mk.injEq] at g; exact absurd ⟨by omega, by omega⟩ e
def prs (n : Nat) : List (Int × Int) := (List.range n).flatMap fun p : Nat => (List.range n).map fun q : Nat => ((p : Int), (q : Int))
theorem prs_len (n : Nat) : (prs n).length = n * n := by
  have key : ∀ l : List Nat, (l.map fun _ => n).sum = l.length * n := fun l => by
    induction l with
    | nil => simp
    | cons a l ih => rw [List.map_cons, List.sum_cons, ih, List.length_cons, Nat.succ_mul]; omega
  unfold prs; rw [List.length_flatMap]
  have := key (List.range n)
  simpa using this
theorem Tok.in_prs {t : List (List Int)} (h : Tok t) {d : Int × Int} (hd : Dt (rho t) d) : d ∈ prs t.length := by
  obtain ⟨a, b⟩ := d
  have h1 := h.rng a b hd; have h2 := h.rng' hd
  unfold prs
  exact List.mem_flatMap.2 ⟨a.toNat, List.mem_range.2 (by omega), List.mem_map.2 ⟨b.toNat, List.mem_range.2 (by omega), by rw [Int.toNat_of_nonneg h2.1, Int.toNat_of_nonneg h1.1]⟩⟩
theorem Tok.cap {t : List (List Int)} (h : Tok t) {V : List (Int × Int)} (hn : V.Nodup) (hd : ∀ d ∈ V, Dt (rho t) d) : V.length ≤ t.length * t.length := by
  rw [← prs_len]; exact sub_len hn fun d hd' => h.in_prs (hd d hd')
theorem n_sq {n : Nat} (h : n ≤ 8) : n * n ≤ 64 := Nat.mul_le_mul h h
theorem Tok.nat {t : List (List Int)} (h : Tok t) {d : Int × Int} (hd : Dt (rho t) d) : ∃ p q : Nat, d = ((p : Int), (q : Int)) ∧ p < t.length ∧ q < t.length := by
  obtain ⟨a, b⟩ := d
  have h1 := h.rng a b hd; have h2 := h.rng' hd
  exact ⟨a.toNat, b.toNat, by rw [Int.toNat_of_nonneg h2.1, Int.toNat_of_nonneg h1.1], by omega, by omega⟩
theorem l3_ex {t : List (List Int)} (h : Tok t) {fs : List (List (Int × Int))} {d0 : Int × Int} {s : List Bool} (out : List (List Int)) (hw : FW (rho t) fs d0 [] d0) (hs : Sn t.length s fs.flatten) :
    ∃ s' face, lp (fun s => F_spec_l22Faces_l3 t s.1 s.2.1 s.2.2.1 s.2.2.2.1 s.2.2.2.2) (s, out, ([] : List Int), d0.1, d0.2) = some (.inl (s', out, face)) ∧ face.length ≤ 64 ∧
      ∃ pa, Cyc (fst (rho t)) pa ∧ (fs.flatten ++ pa).Nodup ∧ (∀ d ∈ fs.flatten ++ pa, Dt (rho t) d) ∧ d0 ∈ pa ∧ Sn t.length s' (fs.flatten ++ pa) := by
  obtain ⟨o, h1, s', face, rfl, hf, h2⟩ : ∃ o, lp (fun s => F_spec_l22Faces_l3 t s.1 s.2.1 s.2.2.1 s.2.2.2.1 s.2.2.2.2) (s, out, ([] : List Int), d0.1, d0.2) = some o ∧ ∃ s' face, o = .inl (s', out, face) ∧ face.length ≤ 64 ∧
      ∃ pa, Cyc (fst (rho t)) pa ∧ (fs.flatten ++ pa).Nodup ∧ (∀ d ∈ fs.flatten ++ pa, Dt (rho t) d) ∧ d0 ∈ pa ∧ Sn t.length s' (fs.flatten ++ pa) := by
    refine lp_rule (fun z => ∃ pa x, FW (rho t) fs d0 pa x ∧ Sn t.length z.1 (fs.flatten ++ pa) ∧ z.2.1 = out ∧ z.2.2.1.length = pa.length ∧ z.2.2.2.1 = x.1 ∧ z.2.2.2.2 = x.2)
      (fun z => t.length * t.length - z.2.2.1.length) _ ?_ _ ⟨[], d0, hw, by rw [List.append_nil]; exact hs, rfl, rfl, rfl, rfl⟩
    rintro ⟨s, out', face, a, b⟩ ⟨pa, x, hw, hs, e1, e2, e3, e4⟩
    dsimp only at hs e1 e2 e3 e4
    subst e1
    obtain ⟨p, q, rfl, hp, hq⟩ := h.nat hw.dx
    dsimp only at e3 e4
    subst e3 e4
    have hpq := pq_lt hp hq
    have h64 := n_sq h.n8
    have hi : ((p : Int) * (t.length : Int)) + (q : Int) = ((p * t.length + q : Nat) : Int) := by simp
    have hcap := h.cap hw.nd hw.dt
    rw [List.length_append] at hcap
    have hpn : p * t.length < t.length * t.length + 1 := by omega
    have hget : s.getD (p * t.length + q) false = s[p * t.length + q]'(by rw [hs.len]; exact hpq) := by
      simp [List.getD_eq_getElem?_getD, hs.len, hpq]
    have hsn := hs.iff p q hp hq
    rw [hget] at hsn
    have ha : p * t.length ≤ 64 := by omega
    simp only [F_spec_l22Faces_l3]
    rw [ck_of (show InI ((p : Int) * (t.length : Int)) by rw [← Int.natCast_mul]; exact inI (by omega) (by omega)), hi, ck_of (inI (by omega) (by omega)), idx_nat (by rw [hs.len]; exact hpq)]
    by_cases hv : ((p : Int), (q : Int)) ∈ fs.flatten ++ pa
    · rw [if_neg (by rw [hsn]; exact fun g => g hv)]
      refine .inr ⟨_, rfl, s, face, rfl, by omega, pa, hw.stop h.rs hv, hw.nd, hw.dt, ?_, hs⟩
      have hne := (hw.stop h.rs hv).ne
      have := hw.hd
      cases pa with
      | nil => exact absurd rfl hne
      | cons y pa => rw [show y = d0 from this]; simp
    · have hrow : t[q]? = some (rho t (q : Int)) := by rw [rho_nat hq]; simp [hq]
      have hin : (p : Int) ∈ rho t (q : Int) := h.rs.sym _ _ hw.dx
      have hst := hw.step h.rs hv
      have hcap2 := h.cap hst.nd hst.dt
      simp only [List.length_append, List.length_singleton] at hcap2
      rw [if_pos (by rw [hsn]; exact hv), ck_of (show InI ((p : Int) * (t.length : Int)) by rw [← Int.natCast_mul]; exact inI (by omega) (by omega)), ck_of (inI (by omega) (by omega)), idx_nat (by rw [hs.len]; exact hpq), app1_s (by omega), idx_of (by omega) (by simpa using hrow),
        cal_of (behind_eq (by have := h.len (q : Int); have := h.n8; omega) hin)]
      refine .inl ⟨_, rfl, ⟨pa ++ [((p : Int), (q : Int))], _, hst, ?_, rfl, by simp [e2], rfl, rfl⟩, ?_⟩
      · rw [← List.append_assoc]; exact hs.set hp hq
      · show t.length * t.length - (face ++ [(p : Int)]).length < t.length * t.length - face.length
        rw [List.length_append, List.length_singleton]; omega
  exact ⟨s', face, h1, hf, h2⟩
structure FI (t : List (List Int)) (s : List Bool) (out : List (List Int)) (P : Int × Int → Prop) (fs : List (List (Int × Int))) : Prop where
  cyc : ∀ c ∈ fs, Cyc (fst (rho t)) c
  nd : fs.flatten.Nodup
  dt : ∀ d ∈ fs.flatten, Dt (rho t) d
  sn : Sn t.length s fs.flatten
  len : out.length = fs.length
  all : ∀ d, Dt (rho t) d → P d → d ∈ fs.flatten
theorem FI.le {t : List (List Int)} (h : Tok t) {s out P fs} (f : FI t s out P fs) : out.length ≤ 64 := by
  have h1 := flat_ge 1 (fs := fs) (fun c hc => List.length_pos_iff.2 (f.cyc c hc).ne)
  have h2 := h.cap f.nd f.dt
  have := n_sq h.n8; have := f.len
  omega
theorem l2_round {t : List (List Int)} (h : Tok t) {u v : Nat} (hu : u < t.length) (hv : v < t.length) {s : List Bool} {out : List (List Int)} {fs}
    (f : FI t s out (fun d => d.1 < u ∨ (d.1 = u ∧ d.2 < v)) fs) :
    ∃ s' out' fs', F_spec_l22Faces_l2 t (u : Int) s out (v : Int) = some (.inl (s', out', ((v + 1 : Nat) : Int))) ∧ FI t s' out' (fun d => d.1 < u ∨ (d.1 = u ∧ d.2 < (v + 1 : Nat))) fs' := by
  have h8 := h.n8
  have h64 := n_sq h8
  have hpq := pq_lt hu hv
  have hrow : rho t (u : Int) = t[u] := rho_nat hu
  have hrl := h.len (u : Int)
  have hi : ((u : Int) * (t.length : Int)) + (v : Int) = ((u * t.length + v : Nat) : Int) := by simp
  have ha : u * t.length ≤ 64 := by omega
  have more : ∀ (P : Prop) {fs'}, (∀ d, Dt (rho t) d → (d.1 < u ∨ (d.1 = u ∧ d.2 < v)) → d ∈ List.flatten fs') → (Dt (rho t) ((u : Int), (v : Int)) → ((u : Int), (v : Int)) ∈ List.flatten fs') →
      ∀ d, Dt (rho t) d → (d.1 < (u : Int) ∨ (d.1 = (u : Int) ∧ d.2 < ((v + 1 : Nat) : Int))) → d ∈ List.flatten fs' := fun P fs' h1 h2 d hd hP => by
    by_cases e : d = ((u : Int), (v : Int))
    · subst e; exact h2 hd
    · refine h1 d hd ?_
      rcases hP with g | ⟨g1, g2⟩
      · exact .inl g
      · refine .inr ⟨g1, ?_⟩
        have : d.2 ≠ (v : Int) := fun k => e (Prod.ext g1 k)
        omega
  simp only [F_spec_l22Faces_l2]
  rw [if_pos (by omega), idx_nat hu, ← hrow, cal_of (l1Has_eq _ _ (by omega))]
  by_cases hd : (v : Int) ∈ rho t (u : Int)
  · have hsn := f.sn.iff u v hu hv
    have hget : s.getD (u * t.length + v) false = s[u * t.length + v]'(by rw [f.sn.len]; exact hpq) := by
      simp [List.getD_eq_getElem?_getD, f.sn.len, hpq]
    rw [hget] at hsn
    rw [if_neg (by simpa using hd), ck_of (show InI ((u : Int) * (t.length : Int)) by rw [← Int.natCast_mul]; exact inI (by omega) (by omega)), hi, ck_of (inI (by omega) (by omega)), idx_nat (by rw [f.sn.len]; exact hpq)]
    by_cases hseen : ((u : Int), (v : Int)) ∈ fs.flatten
    · rw [if_pos (hsn.2 hseen), ck_of (inI (by omega) (by omega))]
      exact ⟨s, out, fs, rfl, f.cyc, f.nd, f.dt, f.sn, f.len, more True f.all fun _ => hseen⟩
    · rw [if_neg (fun g => hseen (hsn.1 g))]
      obtain ⟨s', face, h1, hf, pa, p1, p2, p3, p4, p5⟩ := l3_ex h (d0 := ((u : Int), (v : Int))) out
        ⟨f.cyc, by rw [List.append_nil]; exact f.nd, by rw [List.append_nil]; exact f.dt, hd, trivial, rfl, hseen⟩ f.sn
      have hle := f.le h
      rw [bnd_l h1]
      unfold F_spec_l22Faces_k4
      rw [app1_s (by show out.length + 1 ≤ _; omega), ck_of (inI (by omega) (by omega))]
      have hfl : (fs ++ [pa]).flatten = fs.flatten ++ pa := by simp
      refine ⟨s', out ++ [face], fs ++ [pa], rfl, ⟨?_, by rw [hfl]; exact p2, by rw [hfl]; exact p3, by rw [hfl]; exact p5, by simp [f.len], more True (fun d hd hP => by rw [hfl]; exact List.mem_append_left _ (f.all d hd hP)) fun _ => by rw [hfl]; exact List.mem_append_right _ p4⟩⟩
      intro c hc
      rcases List.mem_append.1 hc with g | g
      · exact f.cyc c g
      · rw [List.mem_singleton.1 g]; exact p1
  · rw [if_pos (by simpa using hd), ck_of (inI (by omega) (by omega))]
    exact ⟨s, out, fs, rfl, f.cyc, f.nd, f.dt, f.sn, f.len, more True f.all fun g => absurd g hd⟩
theorem l1_round {t : List (List Int)} (h : Tok t) {u : Nat} (hu : u < t.length) {s : List Bool} {out : List (List Int)} {fs} (f : FI t s out (fun d => d.1 < u) fs) :
    ∃ s' out' fs', F_spec_l22Faces_l1 t s out (u : Int) = some (.inl (s', out', ((u + 1 : Nat) : Int))) ∧ FI t s' out' (fun d => d.1 < (u + 1 : Nat)) fs' := by
  have h8 := h.n8
  obtain ⟨o, h1, s', out', rfl, fs', g⟩ := lp_ex (step := fun s => F_spec_l22Faces_l2 t (u : Int) s.1 s.2.1 s.2.2) (fun (k : Nat) (a : List Bool × List (List Int)) => (a.1, a.2, (k : Int))) t.length
    (fun k a => ∃ fs, FI t a.1 a.2 (fun d => d.1 < u ∨ (d.1 = u ∧ d.2 < (k : Nat))) fs) (fun o => ∃ s' out', o = .inl (s', out') ∧ ∃ fs', FI t s' out' (fun d => d.1 < (u + 1 : Nat)) fs')
    (fun k a hk ⟨fs, f⟩ => by
      obtain ⟨s', out', fs', e, f'⟩ := l2_round h hu hk f
      exact ⟨(s', out'), e, fs', f'⟩)
    (fun a ⟨fs, f⟩ => by
      refine ⟨.inl (a.1, a.2), ?_, a.1, a.2, rfl, fs, f.cyc, f.nd, f.dt, f.sn, f.len, fun d hd hP => f.all d hd ?_⟩
      · simp only [F_spec_l22Faces_l2]; rw [if_neg (by omega)]
      · have := h.rng d.1 d.2 hd; omega) t.length 0 (s, out) (by omega) ⟨fs, f.cyc, f.nd, f.dt, f.sn, f.len, fun d hd hP => f.all d hd (by rcases hP with g | ⟨_, g⟩; exact g; have := h.rng d.1 d.2 hd; omega)⟩
  refine ⟨s', out', fs', ?_, g⟩
  simp only [F_spec_l22Faces_l1]
  have h1 : lp (fun s => F_spec_l22Faces_l2 t (u : Int) s.1 s.2.1 s.2.2) (s, out, 0) = some (.inl (s', out')) := h1
  rw [if_pos (by omega), bnd_l h1]
  unfold F_spec_l22Faces_k5
  rw [ck_of (inI (by omega) (by omega))]; rfl
theorem faces_ex {t : List (List Int)} (h : Tok t) : ∃ out fs, F_spec_l22Faces t = some out ∧ Dec (fst (rho t)) (Dt (rho t)) fs ∧ out.length = fs.length := by
  have h8 := h.n8
  have h64 := n_sq h8
  obtain ⟨o, h1, out, rfl, fs, g⟩ := lp_ex (step := fun s => F_spec_l22Faces_l1 t s.1 s.2.1 s.2.2) (fun (k : Nat) (a : List Bool × List (List Int)) => (a.1, a.2, (k : Int))) t.length
    (fun k a => ∃ fs, FI t a.1 a.2 (fun d => d.1 < (k : Nat)) fs) (fun o => ∃ out, o = .inl out ∧ ∃ fs, Dec (fst (rho t)) (Dt (rho t)) fs ∧ out.length = fs.length)
    (fun k a hk ⟨fs, f⟩ => by
      obtain ⟨s', out', fs', e, f'⟩ := l1_round h hk f
      exact ⟨(s', out'), e, fs', f'⟩)
    (fun a ⟨fs, f⟩ => by
      refine ⟨.inl a.2, ?_, a.2, rfl, fs, ⟨f.cyc, f.nd, fun d => ⟨f.dt d, fun hd => f.all d hd ?_⟩⟩, f.len⟩
      · simp only [F_spec_l22Faces_l1]; rw [if_neg (by omega)]
      · have := h.rng' hd; omega) t.length 0 (List.replicate (t.length * t.length) false, []) (by omega)
    ⟨[], by simp, by simp, by simp, ⟨by simp, fun p q hp hq => by simp [List.getD_eq_getElem?_getD, List.getElem?_replicate]; split <;> rfl⟩, rfl, fun d hd hP => by have := h.rng' hd; omega⟩
  refine ⟨out, fs, ?_, g⟩
  unfold F_spec_l22Faces
  rw [← Int.natCast_mul, ck_of (inI (by omega) (by omega)), mkS_of (by omega) (by show _ ≤ 1099511627776; omega), Int.toNat_natCast]
  have h1 : lp (fun s => F_spec_l22Faces_l1 t s.1 s.2.1 s.2.2) (List.replicate (t.length * t.length) false, ([] : List (List Int)), 0) = some (.inl out) := h1
  rw [bnd_l h1]; rfl
end Go.Proofs.YtmaaloijdjnblaaGreatDoor

/- The program's faces: each side is told the number of its cycle. -/
namespace Go.Proofs.YtmaaloijdjnblaaGreatDoor
theorem index_int_eq {l : List Int} (hl : l.length ≤ 1000) {u : Int} (hu : u ∈ l) : F_slices_Index_int l u = some (l.idxOf u : Int) := by
  unfold F_slices_Index_int
  have hpos : 0 < l.length := List.length_pos_of_mem hu
  have := lp_find (step := fun s => F_slices_Index_int_l1 l u s) l (fun x => x == u) (fun k => k)
    (fun k hk hp => by
      simp only [F_slices_Index_int_l1]
      rw [if_pos (by omega), idx_nat hk, if_neg (fun e => by simp [e] at hp), ck_of (inI (by omega) (by omega))])
    (fun k hk hp => by
      simp only [F_slices_Index_int_l1]
      rw [if_pos (by omega), idx_nat hk, if_pos (by simp at hp; exact hp.symm)])
    (by simp only [F_slices_Index_int_l1]; rw [if_neg (by omega)])
  have hf : l.findIdx? (fun x => x == u) = some (l.idxOf u) := by
    rw [List.findIdx?_eq_some_iff_findIdx_eq]
    exact ⟨List.idxOf_lt_length_iff.2 hu, rfl⟩
  rw [hf] at this
  rw [bnd_r this]
theorem after_eq {t : List (List Int)} (h : Tok t) {a : Int} {q : Nat} (hq : q < t.length) (ha : a ∈ rho t (q : Int)) : F_impl_turns_after t (q : Int) a = some (nxt (rho t (q : Int)) a) := by
  have h8 := h.n8
  have hl := h.len (q : Int)
  have hrow : rho t (q : Int) = t[q] := rho_nat hq
  rw [hrow] at ha hl ⊢
  have hpos : 0 < t[q].length := List.length_pos_of_mem ha
  have hi := List.idxOf_lt_length_iff.2 ha
  unfold F_impl_turns_after
  rw [idx_nat hq, cal_of (index_int_eq (by omega) ha), idx_nat hq, ck_of (inI (by omega) (by omega)), idx_nat hq, grd_of ⟨by omega, by omega⟩]
  have hm : (t[q].idxOf a + 1) % t[q].length < t[q].length := Nat.mod_lt _ hpos
  rw [show ((t[q].idxOf a : Int) + 1) % (t[q].length : Int) = (((t[q].idxOf a + 1) % t[q].length : Nat) : Int) by rw [Int.natCast_emod]; rfl, idx_nat hm]
  simp [nxt, List.getD_eq_getElem?_getD, hm]
structure TI (T : Tf (Int × Int)) (fs : List (List (Int × Int))) (pa : List (Int × Int)) : Prop where
  of : ∀ (i : Nat) (c : List (Int × Int)), fs[i]? = some c → ∀ d ∈ c, T d = some (i : Int)
  cur : ∀ d ∈ pa, T d = some (fs.length : Int)
  no : ∀ d, d ∉ fs.flatten ++ pa → T d = none
theorem TI.iff {T : Tf (Int × Int)} {fs : List (List (Int × Int))} {pa : List (Int × Int)} (h : TI T fs pa) (d : Int × Int) : (T d).isSome = true ↔ d ∈ fs.flatten ++ pa := by
  constructor
  · intro g
    by_cases m : d ∈ fs.flatten ++ pa
    · exact m
    · rw [h.no d m] at g; cases g
  · intro g
    rcases List.mem_append.1 g with m | m
    · obtain ⟨c, hc, hd⟩ := List.mem_flatten.1 m
      obtain ⟨i, hi⟩ := List.getElem?_of_mem hc
      rw [h.of i c hi d hd]; rfl
    · rw [h.cur d m]; rfl
theorem TI.put {T : Tf (Int × Int)} {fs : List (List (Int × Int))} {pa : List (Int × Int)} (h : TI T fs pa) {x : Int × Int} (hx : x ∉ fs.flatten ++ pa) : TI (putT T x (fs.length : Int)) fs (pa ++ [x]) where
  of i c hc d hd := by
    have : d ≠ x := fun e => hx (by rw [← e]; exact List.mem_append_left _ (List.mem_flatten.2 ⟨c, List.mem_of_getElem? hc, hd⟩))
    unfold putT; rw [if_neg this]; exact h.of i c hc d hd
  cur d hd := by
    unfold putT
    by_cases e : d = x
    · rw [if_pos e]
    · rw [if_neg e]
      rcases List.mem_append.1 hd with g | g
      · exact h.cur d g
      · exact absurd (List.mem_singleton.1 g) e
  no d hd := by
    unfold putT
    rw [if_neg (fun e => hd (by rw [e]; simp))]
    exact h.no d fun g => hd (by rw [← List.append_assoc]; exact List.mem_append_left _ g)
theorem TI.close {T : Tf (Int × Int)} {fs : List (List (Int × Int))} {pa : List (Int × Int)} (h : TI T fs pa) : TI T (fs ++ [pa]) [] where
  of i c hc d hd := by
    rcases Nat.lt_trichotomy i fs.length with g | g | g
    · rw [List.getElem?_append_left g] at hc; exact h.of i c hc d hd
    · subst g
      rw [List.getElem?_append_right (Nat.le_refl _), Nat.sub_self] at hc
      obtain rfl : pa = c := by simpa using hc
      exact h.cur d hd
    · rw [List.getElem?_eq_none (by simp; omega)] at hc; cases hc
  cur d hd := by cases hd
  no d hd := h.no d (by simpa using hd)
theorem TI.same {φ : Int × Int → Int × Int} {D : Int × Int → Prop} {T : Tf (Int × Int)} {fs : List (List (Int × Int))} (h : TI T fs []) (hd : Dec φ D fs) {d d' : Int × Int} (h1 : D d) (h2 : D d') :
    (T d).getD 0 = (T d').getD 0 ↔ Rc (fun x y => φ x = y) d d' := by
  obtain ⟨c, hc, hdc⟩ := List.mem_flatten.1 ((hd.mem d).2 h1)
  obtain ⟨c', hc', hdc'⟩ := List.mem_flatten.1 ((hd.mem d').2 h2)
  obtain ⟨i, hi⟩ := List.getElem?_of_mem hc
  obtain ⟨j, hj⟩ := List.getElem?_of_mem hc'
  rw [h.of i c hi d hdc, h.of j c' hj d' hdc']
  show (i : Int) = (j : Int) ↔ _
  constructor
  · intro e
    have e : i = j := by omega
    subst e
    rw [hi] at hj
    obtain rfl := Option.some.inj hj
    exact hd.part.con c hc d hdc d' hdc'
  · intro g
    have hm : d' ∈ c := g (· ∈ c) (fun a b ha hab => hd.part.clo c hc a ha b hab) hdc
    have := h.of i c hi d' hm
    rw [h.of j c' hj d' hdc'] at this
    exact (Option.some.inj this).symm
theorem p3_ex {t : List (List Int)} (h : Tok t) {fs : List (List (Int × Int))} {d0 : Int × Int} {T : Tf (Int × Int)} {out : List (List Int)} (hout : out.length = fs.length) (hw : FW (rho t) fs d0 [] d0) (hT : TI T fs []) :
    ∃ T' face, lp (fun s => F_impl_turns_faces_l3 t s.1 s.2.1 s.2.2.1 s.2.2.2.1 s.2.2.2.2) (out, T, ([] : List Int), d0.1, d0.2) = some (.inl (out, T', face)) ∧ face.length ≤ 64 ∧
      ∃ pa, Cyc (fst (rho t)) pa ∧ (fs.flatten ++ pa).Nodup ∧ (∀ d ∈ fs.flatten ++ pa, Dt (rho t) d) ∧ d0 ∈ pa ∧ TI T' fs pa := by
  obtain ⟨o, h1, T', face, rfl, hf, h2⟩ : ∃ o, lp (fun s => F_impl_turns_faces_l3 t s.1 s.2.1 s.2.2.1 s.2.2.2.1 s.2.2.2.2) (out, T, ([] : List Int), d0.1, d0.2) = some o ∧ ∃ T' face, o = .inl (out, T', face) ∧ face.length ≤ 64 ∧
      ∃ pa, Cyc (fst (rho t)) pa ∧ (fs.flatten ++ pa).Nodup ∧ (∀ d ∈ fs.flatten ++ pa, Dt (rho t) d) ∧ d0 ∈ pa ∧ TI T' fs pa := by
    refine lp_rule (fun z => ∃ pa x, FW (rho t) fs d0 pa x ∧ TI z.2.1 fs pa ∧ z.1 = out ∧ z.2.2.1.length = pa.length ∧ z.2.2.2.1 = x.1 ∧ z.2.2.2.2 = x.2)
      (fun z => t.length * t.length - z.2.2.1.length) _ ?_ _ ⟨[], d0, hw, hT, rfl, rfl, rfl, rfl⟩
    rintro ⟨out', T, face, a, b⟩ ⟨pa, x, hw, hT, e1, e2, e3, e4⟩
    dsimp only at hT e1 e2 e3 e4
    subst e1
    obtain ⟨p, q, rfl, hp, hq⟩ := h.nat hw.dx
    dsimp only at e3 e4
    subst e3 e4
    have h64 := n_sq h.n8
    have hcap := h.cap hw.nd hw.dt
    rw [List.length_append] at hcap
    simp only [F_impl_turns_faces_l3]
    by_cases hv : ((p : Int), (q : Int)) ∈ fs.flatten ++ pa
    · rw [if_pos ((hT.iff _).2 hv)]
      refine .inr ⟨_, rfl, T, face, rfl, by omega, pa, hw.stop h.rs hv, hw.nd, hw.dt, ?_, hT⟩
      have hne := (hw.stop h.rs hv).ne
      have := hw.hd
      cases pa with
      | nil => exact absurd rfl hne
      | cons y pa => rw [show y = d0 from this]; simp
    · have hin : (p : Int) ∈ rho t (q : Int) := h.rs.sym _ _ hw.dx
      have hst := hw.step h.rs hv
      have hcap2 := h.cap hst.nd hst.dt
      simp only [List.length_append, List.length_singleton] at hcap2
      rw [if_neg (fun g => hv ((hT.iff _).1 g)), app1_s (by omega), cal_of (after_eq h hq hin), hout]
      refine .inl ⟨_, rfl, ⟨pa ++ [((p : Int), (q : Int))], _, hst, hT.put hv, rfl, by simp [e2], rfl, rfl⟩, ?_⟩
      show t.length * t.length - (face ++ [(p : Int)]).length < t.length * t.length - face.length
      rw [List.length_append, List.length_singleton]; omega
  exact ⟨T', face, h1, hf, h2⟩
structure FT (t : List (List Int)) (T : Tf (Int × Int)) (out : List (List Int)) (P : Int × Int → Prop) (fs : List (List (Int × Int))) : Prop where
  cyc : ∀ c ∈ fs, Cyc (fst (rho t)) c
  nd : fs.flatten.Nodup
  dt : ∀ d ∈ fs.flatten, Dt (rho t) d
  tb : TI T fs []
  len : out.length = fs.length
  all : ∀ d, Dt (rho t) d → P d → d ∈ fs.flatten
theorem FT.le {t : List (List Int)} (h : Tok t) {T out P fs} (f : FT t T out P fs) : out.length ≤ 64 := by
  have h1 := flat_ge 1 (fs := fs) (fun c hc => List.length_pos_iff.2 (f.cyc c hc).ne)
  have h2 := h.cap f.nd f.dt
  have := n_sq h.n8; have := f.len
  omega
theorem p2_round {t : List (List Int)} (h : Tok t) {u : Nat} (hu : u < t.length) {sr : List Int} (hsr : ∀ v ∈ sr, v ∈ rho t (u : Int)) {k : Nat} (hk : k < sr.length) (hk8 : sr.length ≤ 8) {T : Tf (Int × Int)} {out : List (List Int)} {fs}
    (f : FT t T out (fun d => d.1 < u ∨ (d.1 = u ∧ d.2 ∈ sr.take k)) fs) :
    ∃ T' out' fs', F_impl_turns_faces_l2 t (u : Int) sr out T (k : Int) = some (.inl (out', T', ((k + 1 : Nat) : Int))) ∧ FT t T' out' (fun d => d.1 < u ∨ (d.1 = u ∧ d.2 ∈ sr.take (k + 1))) fs' := by
  have hd : Dt (rho t) ((u : Int), sr[k]) := hsr _ (List.getElem_mem hk)
  have more : ∀ {fs' : List (List (Int × Int))}, (∀ d, Dt (rho t) d → (d.1 < (u : Int) ∨ (d.1 = (u : Int) ∧ d.2 ∈ sr.take k)) → d ∈ fs'.flatten) → ((u : Int), sr[k]) ∈ fs'.flatten →
      ∀ d, Dt (rho t) d → (d.1 < (u : Int) ∨ (d.1 = (u : Int) ∧ d.2 ∈ sr.take (k + 1))) → d ∈ fs'.flatten := fun {fs'} h1 h2 d hd hP => by
    rcases hP with g | ⟨g1, g2⟩
    · exact h1 d hd (.inl g)
    · rw [List.take_add_one, List.getElem?_eq_getElem hk] at g2
      rcases List.mem_append.1 g2 with g | g
      · exact h1 d hd (.inr ⟨g1, g⟩)
      · have e : d.2 = sr[k] := by simpa using g
        rw [show d = ((u : Int), sr[k]) from Prod.ext g1 e]; exact h2
  simp only [F_impl_turns_faces_l2]
  rw [if_pos (by omega), idx_nat hk]
  by_cases hseen : ((u : Int), sr[k]) ∈ fs.flatten
  · rw [if_pos ((f.tb.iff _).2 (by rw [List.append_nil]; exact hseen)), ck_of (inI (by omega) (by omega))]
    exact ⟨T, out, fs, rfl, f.cyc, f.nd, f.dt, f.tb, f.len, more f.all hseen⟩
  · rw [if_neg (fun g => hseen (by have := (f.tb.iff _).1 g; rwa [List.append_nil] at this))]
    obtain ⟨T', face, h1, hf, pa, p1, p2, p3, p4, p5⟩ := p3_ex h (d0 := ((u : Int), sr[k])) f.len
      ⟨f.cyc, by rw [List.append_nil]; exact f.nd, by rw [List.append_nil]; exact f.dt, hd, trivial, rfl, hseen⟩ f.tb
    have hle := f.le h
    rw [bnd_l h1]
    unfold F_impl_turns_faces_k4
    rw [app1_s (by show out.length + 1 ≤ _; omega), ck_of (inI (by omega) (by omega))]
    have hfl : (fs ++ [pa]).flatten = fs.flatten ++ pa := by simp
    refine ⟨T', out ++ [face], fs ++ [pa], rfl, ⟨?_, by rw [hfl]; exact p2, by rw [hfl]; exact p3, p5.close, by simp [f.len], more (fun d hd hP => by rw [hfl]; exact List.mem_append_left _ (f.all d hd hP)) (by rw [hfl]; exact List.mem_append_right _ p4)⟩⟩
    intro c hc
    rcases List.mem_append.1 hc with g | g
    · exact f.cyc c g
    · rw [List.mem_singleton.1 g]; exact p1
theorem sorted_int_eq {l : List Int} (hl : l.length ≤ 1000) : F_slices_Sorted_int l = some (l.mergeSort fun x y => decide (x ≤ y)) := by
  unfold F_slices_Sorted_int F_slices_Collect_int F_slices_Sort_int
  rw [if_pos (by omega), cal_some_eq, if_pos (by omega)]; rfl
theorem p1_round {t : List (List Int)} (h : Tok t) {u : Nat} (hu : u < t.length) {T : Tf (Int × Int)} {out : List (List Int)} {fs} (f : FT t T out (fun d => d.1 < u) fs) :
    ∃ T' out' fs', F_impl_turns_faces_l1 t out T (u : Int) = some (.inl (out', T', ((u + 1 : Nat) : Int))) ∧ FT t T' out' (fun d => d.1 < (u + 1 : Nat)) fs' := by
  have h8 := h.n8
  have hrow : rho t (u : Int) = t[u] := rho_nat hu
  have hrl := h.len (u : Int)
  rw [hrow] at hrl
  obtain ⟨sr, hsr⟩ : ∃ sr, sr = t[u].mergeSort fun x y => decide (x ≤ y) := ⟨_, rfl⟩
  have hperm : sr.Perm t[u] := by rw [hsr]; exact List.mergeSort_perm _ _
  have hmem : ∀ v, v ∈ sr ↔ v ∈ rho t (u : Int) := fun v => by rw [hrow]; exact hperm.mem_iff
  have hlen : sr.length ≤ 8 := by have := hperm.length_eq; omega
  obtain ⟨o, h1, T', out', rfl, fs', g⟩ := lp_ex (step := fun s => F_impl_turns_faces_l2 t (u : Int) sr s.1 s.2.1 s.2.2) (fun (k : Nat) (a : Tf (Int × Int) × List (List Int)) => (a.2, a.1, (k : Int))) sr.length
    (fun k a => ∃ fs, FT t a.1 a.2 (fun d => d.1 < u ∨ (d.1 = u ∧ d.2 ∈ sr.take k)) fs) (fun o => ∃ T' out', o = .inl (out', T') ∧ ∃ fs', FT t T' out' (fun d => d.1 < (u + 1 : Nat)) fs')
    (fun k a hk ⟨fs, f⟩ => by
      obtain ⟨T', out', fs', e, f'⟩ := p2_round h hu (fun v hv => (hmem v).1 hv) hk hlen f
      exact ⟨(T', out'), e, fs', f'⟩)
    (fun a ⟨fs, f⟩ => by
      refine ⟨.inl (a.2, a.1), ?_, a.1, a.2, rfl, fs, f.cyc, f.nd, f.dt, f.tb, f.len, fun d hd hP => f.all d hd ?_⟩
      · simp only [F_impl_turns_faces_l2]; rw [if_neg (by omega)]
      · by_cases e : d.1 = u
        · refine .inr ⟨e, ?_⟩
          rw [List.take_length, hmem, ← e]; exact hd
        · exact .inl (by omega)) sr.length 0 (T, out) (by omega) ⟨fs, f.cyc, f.nd, f.dt, f.tb, f.len, fun d hd hP => f.all d hd (by rcases hP with g | ⟨_, g⟩; exact g; simp at g)⟩
  refine ⟨T', out', fs', ?_, g⟩
  simp only [F_impl_turns_faces_l1]
  have h1 : lp (fun s => F_impl_turns_faces_l2 t (u : Int) sr s.1 s.2.1 s.2.2) (out, T, 0) = some (.inl (out', T')) := h1
  rw [if_pos (by omega), idx_nat hu]
  unfold F_slices_Values_int
  rw [cal_some_eq, cal_of (sorted_int_eq (by omega)), ← hsr, bnd_l h1]
  unfold F_impl_turns_faces_k5
  rw [ck_of (inI (by omega) (by omega))]; rfl
theorem pfaces_ex {t : List (List Int)} (h : Tok t) : ∃ out T fs, F_impl_turns_faces t = some (out, T) ∧ Dec (fst (rho t)) (Dt (rho t)) fs ∧ TI T fs [] := by
  have h8 := h.n8
  obtain ⟨o, h1, out, T, rfl, fs, g⟩ := lp_ex (step := fun s => F_impl_turns_faces_l1 t s.1 s.2.1 s.2.2) (fun (k : Nat) (a : Tf (Int × Int) × List (List Int)) => (a.2, a.1, (k : Int))) t.length
    (fun k a => ∃ fs, FT t a.1 a.2 (fun d => d.1 < (k : Nat)) fs) (fun o => ∃ out T, o = .inl (out, T) ∧ ∃ fs, Dec (fst (rho t)) (Dt (rho t)) fs ∧ TI T fs [])
    (fun k a hk ⟨fs, f⟩ => by
      obtain ⟨T', out', fs', e, f'⟩ := p1_round h hk f
      exact ⟨(T', out'), e, fs', f'⟩)
    (fun a ⟨fs, f⟩ => by
      refine ⟨.inl (a.2, a.1), ?_, a.2, a.1, rfl, fs, ⟨f.cyc, f.nd, fun d => ⟨f.dt d, fun hd => f.all d hd ?_⟩⟩, f.tb⟩
      · simp only [F_impl_turns_faces_l1]; rw [if_neg (by omega)]
      · have := h.rng' hd; omega) t.length 0 (noT, []) (by omega)
    ⟨[], by simp, by simp, by simp, ⟨fun i c hc => by simp at hc, fun d hd => (by cases hd), fun d hd => rfl⟩, rfl, fun d hd hP => by have := h.rng' hd; omega⟩
  refine ⟨out, T, fs, ?_, g⟩
  unfold F_impl_turns_faces
  have h1 : lp (fun s => F_impl_turns_faces_l1 t s.1 s.2.1 s.2.2) (([] : List (List Int)), (noT : Tf (Int × Int)), 0) = some (.inl (out, T)) := h1
  rw [bnd_l h1]; rfl
end Go.Proofs.YtmaaloijdjnblaaGreatDoor

/- The reference's genus. -/
namespace Go.Proofs.YtmaaloijdjnblaaGreatDoor
def dl (t : List (List Int)) : List (Int × Int) := (List.range t.length).flatMap fun u : Nat => (rho t (u : Int)).map fun v => ((u : Int), v)
theorem mem_dl {t : List (List Int)} (h : Tok t) (d : Int × Int) : d ∈ dl t ↔ Dt (rho t) d := by
  unfold dl
  rw [List.mem_flatMap]
  constructor
  · rintro ⟨u, hu, hd⟩
    obtain ⟨v, hv, rfl⟩ := List.mem_map.1 hd
    exact hv
  · intro hd
    obtain ⟨p, q, rfl, hp, hq⟩ := h.nat hd
    exact ⟨p, List.mem_range.2 hp, List.mem_map.2 ⟨(q : Int), hd, rfl⟩⟩
theorem dl_nodup {t : List (List Int)} (h : Tok t) : (dl t).Nodup := by
  unfold dl
  have key : ∀ l : List Nat, l.Nodup → (l.flatMap fun u : Nat => (rho t (u : Int)).map fun v => ((u : Int), v)).Nodup := fun l => by
    induction l with
    | nil => intro _; simp
    | cons a l ih =>
      intro hl
      rw [List.nodup_cons] at hl
      rw [List.flatMap_cons, List.nodup_append]
      refine ⟨List.pairwise_map.2 ((h.rs.nd _).imp fun hne e => hne (congrArg Prod.snd e)), ih hl.2, fun x hx y hy e => ?_⟩
      obtain ⟨v, hv, rfl⟩ := List.mem_map.1 hx
      obtain ⟨b, hb, hy⟩ := List.mem_flatMap.1 hy
      obtain ⟨v', hv', rfl⟩ := List.mem_map.1 hy
      have := congrArg Prod.fst e
      simp only [Int.natCast_inj] at this
      subst this; exact hl.1 hb
  exact key _ List.nodup_range
theorem dl_len {t : List (List Int)} : (dl t).length = t.flatten.length := by
  have key : ∀ n, n ≤ t.length → ((List.range n).flatMap fun u : Nat => (rho t (u : Int)).map fun v => ((u : Int), v)).length = (t.take n).flatten.length := fun n => by
    induction n with
    | zero => intro _; simp
    | succ n ih =>
      intro hn
      have hn' : n < t.length := hn
      have e : (t.take (n + 1)).flatten.length = (t.take n).flatten.length + t[n].length := by
        rw [List.take_add_one, List.getElem?_eq_getElem hn', List.flatten_append, List.length_append]; simp
      rw [List.range_succ, List.flatMap_append, List.length_append, ih (by omega), e]
      simp [rho_nat hn', -List.length_flatten]
  have := key t.length (Nat.le_refl _)
  rw [List.take_length] at this
  exact this
theorem dl_even {t : List (List Int)} (h : Tok t) : ∃ m, (dl t).length = 2 * m := by
  have h1 : ((dl t).filter fun d => decide (d.1 < d.2)).length = ((dl t).filter fun d => !decide (d.1 < d.2)).length := by
    have nd1 : ((dl t).filter fun d => decide (d.1 < d.2)).Nodup := (dl_nodup h).filter _
    have nd2 : ((dl t).filter fun d => !decide (d.1 < d.2)).Nodup := (dl_nodup h).filter _
    have nd3 : (((dl t).filter fun d => decide (d.1 < d.2)).map fun d => (d.2, d.1)).Nodup := List.pairwise_map.2 (nd1.imp fun {a b} hne e => hne (by
      simp only [Prod.mk.injEq] at e; exact Prod.ext e.2 e.1))
    have := ((List.perm_ext_iff_of_nodup nd3 nd2).2 fun d => by
      rw [List.mem_filter, mem_dl h, List.mem_map]
      constructor
      · rintro ⟨e, he, rfl⟩
        rw [List.mem_filter, mem_dl h] at he
        refine ⟨h.rs.sym _ _ he.1, ?_⟩
        have := he.2; simp at this ⊢; omega
      · rintro ⟨hd, hlt⟩
        refine ⟨(d.2, d.1), ?_, rfl⟩
        rw [List.mem_filter, mem_dl h]
        refine ⟨h.rs.sym _ _ hd, ?_⟩
        have hne : d.1 ≠ d.2 := fun e => h.rs.irr d.1 (by have hd : d.2 ∈ rho t d.1 := hd; rwa [← e] at hd)
        simp at hlt ⊢; omega).length_eq
    rw [List.length_map] at this; exact this
  have key : ∀ l : List (Int × Int), l.length = (l.filter fun d => decide (d.1 < d.2)).length + (l.filter fun d => !decide (d.1 < d.2)).length := fun l => by
    induction l with
    | nil => rfl
    | cons d l ih =>
      by_cases g : d.1 < d.2
      · rw [List.filter_cons_of_pos (by simpa using g), List.filter_cons_of_neg (by simpa using g), List.length_cons, List.length_cons]; omega
      · rw [List.filter_cons_of_neg (by simpa using g), List.filter_cons_of_pos (by simpa using g), List.length_cons, List.length_cons]; omega
  have := key (dl t)
  exact ⟨((dl t).filter fun d => decide (d.1 < d.2)).length, by omega⟩
end Go.Proofs.YtmaaloijdjnblaaGreatDoor

/- The reference's parts of turns. -/
namespace Go.Proofs.YtmaaloijdjnblaaGreatDoor
def nbt (t : List (List Int)) : List Nat := t.map mk
theorem tok_mk_lt {t : List (List Int)} (h : Tok t) {u : Nat} (hu : u < t.length) : mk t[u] < 2 ^ t.length := by
  refine mk_lt fun v hv => ?_
  rw [← rho_nat hu] at hv; exact h.rng _ _ hv
theorem nbt_bit {t : List (List Int)} (h : Tok t) {u v : Nat} (hu : u < t.length) : ((nbt t).getD u 0).testBit v = true ↔ (v : Int) ∈ rho t (u : Int) := by
  have : (nbt t).getD u 0 = mk t[u] := by simp [nbt, List.getD_eq_getElem?_getD, hu]
  rw [this, mk_bit, decide_eq_true_iff, rho_nat hu]
  constructor
  · rintro ⟨y, hy, rfl⟩
    have := h.rng (u : Int) y (by rw [rho_nat hu]; exact hy)
    rwa [Int.toNat_of_nonneg this.1]
  · intro hv; exact ⟨_, hv, by simp⟩
open Classical in
noncomputable def rcs (t : List (List Int)) (v : Nat) : Nat := mk (ints ((List.range t.length).filter fun w => decide (Rc (Ed (rho t)) (v : Int) (w : Int))))
theorem rcs_bit {t : List (List Int)} {v w : Nat} : (rcs t v).testBit w = true ↔ w < t.length ∧ Rc (Ed (rho t)) (v : Int) (w : Int) := by
  unfold rcs
  rw [mk_bit, decide_eq_true_iff]
  constructor
  · rintro ⟨y, hy, rfl⟩
    unfold ints at hy
    obtain ⟨z, hz, rfl⟩ := List.mem_map.1 hy
    rw [List.mem_filter, List.mem_range] at hz
    simpa using hz
  · rintro ⟨h1, h2⟩
    exact ⟨(w : Int), List.mem_map.2 ⟨w, List.mem_filter.2 ⟨List.mem_range.2 h1, by simpa using h2⟩, rfl⟩, by simp⟩
theorem rc_ni {ρ : Int → List Int} {x y : Int} (h : Rc (Ed ρ) x y) (hne : x ≠ y) : Ni ρ x := Classical.byContradiction fun g => by
  have : ρ x = [] := Classical.byContradiction fun k => g k
  refine hne ((h (fun z => x = z) (fun a b ha hab => ?_) rfl))
  subst ha; unfold Ed at hab; rw [this] at hab; simp at hab
structure PI (t : List (List Int)) (l : Nat) (ps : List (List Int)) : Prop where
  lt : l < 2 ^ t.length
  shut : ∀ u v : Nat, l.testBit u = true → (v : Int) ∈ rho t (u : Int) → l.testBit v = true
  ne : ∀ p ∈ ps, p ≠ []
  con : ∀ p ∈ ps, ∀ x ∈ p, ∀ y ∈ p, Rc (Ed (rho t)) x y
  clo : ∀ p ∈ ps, ∀ x ∈ p, ∀ y, Ed (rho t) x y → y ∈ p
  nd : ps.flatten.Nodup
  out : ∀ x ∈ ps.flatten, Ni (rho t) x ∧ ∃ k : Nat, x = (k : Int) ∧ l.testBit k = false
  all : ∀ k : Nat, Ni (rho t) (k : Int) → l.testBit k = false → (k : Int) ∈ ps.flatten
theorem nbt_lt {t : List (List Int)} (h : Tok t) : ∀ v (hv : v < (nbt t).length), (nbt t)[v] < 2 ^ 16 := fun v hv => by
  have hv' : v < t.length := by simpa [nbt] using hv
  have e : (nbt t)[v] = mk t[v] := by simp [nbt]
  rw [e]
  have h8 := h.n8
  exact Nat.lt_of_lt_of_le (tok_mk_lt h hv') (Nat.pow_le_pow_right (by decide) (by omega))
theorem bit_ltU {l n k : Nat} (h : l < 2 ^ n) (hk : l.testBit k = true) : k < n := Classical.byContradiction fun g => by
  rw [Nat.testBit_lt_two_pow (Nat.lt_of_lt_of_le h (Nat.pow_le_pow_right (by decide) (by omega)))] at hk; cases hk
theorem PI.step {t : List (List Int)} (h : Tok t) {l : Nat} {ps : List (List Int)} (hp : PI t l ps) (hl : l ≠ 0) :
    (card (reach (nbt t) l (low l)) ≤ 1 → PI t (sdiff l (reach (nbt t) l (low l))) ps) ∧ (1 < card (reach (nbt t) l (low l)) → PI t (sdiff l (reach (nbt t) l (low l))) (ints (els (reach (nbt t) l (low l))) :: ps)) := by
  have h8 := h.n8
  have hl16 : l < 2 ^ 16 := Nat.lt_of_lt_of_le hp.lt (Nat.pow_le_pow_right (by decide) (by omega))
  have hlow : l.testBit (low l) = true := low_bit hl
  have hr16 := reach_lt (nbt t) l (low l)
  have hself : (reach (nbt t) l (low l)).testBit (low l) = true := reach_low hl hl16
  have hin := reach_in (a := nbt t) hl16 hlow
  have hclosed := reach_closed (a := nbt t) (v := low l) hl16
  have hlow_n := bit_ltU hp.lt hlow
  have hconn : ∀ w, (reach (nbt t) l (low l)).testBit w = true → Rc (Ed (rho t)) ((low l : Nat) : Int) (w : Int) := fun w hw => by
    have ht : rcs t (low l) < 2 ^ 16 := by
      refine mk_lt fun y hy => ?_
      obtain ⟨z, hz, rfl⟩ := List.mem_map.1 hy
      have := List.mem_range.1 (List.mem_filter.1 hz).1; omega
    refine (rcs_bit.1 ((reach_bit.1 hw).2 (rcs t (low l)) ht (rcs_bit.2 ⟨hlow_n, Rc.refl _⟩) fun u hu j hj => ?_)).2
    rw [Nat.testBit_and, Bool.and_eq_true] at hj
    have hu' := rcs_bit.1 hu
    have hj1 := (nbt_bit h hu'.1).1 hj.1
    exact rcs_bit.2 ⟨bit_ltU hp.lt hj.2, hu'.2.trans (Rc.one hj1)⟩
  generalize reach (nbt t) l (low l) = r at *
  have hsd : ∀ j, (sdiff l r).testBit j = true ↔ l.testBit j = true ∧ r.testBit j = false := fun j => by rw [sdiff_bit]; simp
  have hnext : ∀ u v : Nat, r.testBit u = true → (v : Int) ∈ rho t (u : Int) → r.testBit v = true := fun u v hu hv => by
    have hlu := hin u hu
    refine hclosed u hu v ?_
    rw [Nat.testBit_and, Bool.and_eq_true]
    exact ⟨(nbt_bit h (bit_ltU hp.lt hlu)).2 hv, hp.shut u v hlu hv⟩
  have hlt' : sdiff l r < 2 ^ t.length := Nat.lt_of_le_of_lt (SubB.le fun j hj => ((hsd j).1 hj).1) hp.lt
  have hshut' : ∀ u v : Nat, (sdiff l r).testBit u = true → (v : Int) ∈ rho t (u : Int) → (sdiff l r).testBit v = true := fun u v hu hv => by
    have hu := (hsd u).1 hu
    refine (hsd v).2 ⟨hp.shut u v hu.1 hv, ?_⟩
    cases hrv : r.testBit v with
    | false => rfl
    | true =>
      have := hnext v u hrv (h.rs.sym _ _ hv)
      rw [hu.2] at this; cases this
  have hout : ∀ x ∈ ps.flatten, Ni (rho t) x ∧ ∃ k : Nat, x = (k : Int) ∧ (sdiff l r).testBit k = false := fun x hx => by
    obtain ⟨h1, k, e, hk⟩ := hp.out x hx
    refine ⟨h1, k, e, ?_⟩
    cases hs : (sdiff l r).testBit k with
    | false => rfl
    | true => rw [((hsd k).1 hs).1] at hk; cases hk
  have hcase : ∀ k : Nat, (sdiff l r).testBit k = false → l.testBit k = false ∨ r.testBit k = true := fun k hk => by
    cases h1 : l.testBit k with
    | false => exact .inl rfl
    | true =>
      cases h2 : r.testBit k with
      | true => exact .inr rfl
      | false => rw [(hsd k).2 ⟨h1, h2⟩] at hk; cases hk
  constructor
  · intro hc
    refine ⟨hlt', hshut', hp.ne, hp.con, hp.clo, hp.nd, hout, fun k hni hk => ?_⟩
    rcases hcase k hk with g | g
    · exact hp.all k hni g
    · exfalso
      obtain ⟨y, hy⟩ := ni_iff.1 hni
      have hyr := h.rng _ _ hy
      obtain ⟨v, rfl⟩ := Int.eq_ofNat_of_zero_le hyr.1
      have hv := hnext k v g hy
      have hne : k ≠ v := fun e => h.rs.irr (k : Int) (by subst e; exact hy)
      have := sub_len (l := [k, v]) (m := els r) (by simp [hne]) (fun x hx => by
        simp at hx; rcases hx with rfl | rfl
        · exact (mem_els hr16).2 g
        · exact (mem_els hr16).2 hv)
      unfold card at hc; simp at this; omega
  · intro hc
    have hmem : ∀ x, x ∈ ints (els r) ↔ ∃ k : Nat, x = (k : Int) ∧ r.testBit k = true := fun x => by
      unfold ints
      rw [List.mem_map]
      constructor
      · rintro ⟨k, hk, rfl⟩; exact ⟨k, rfl, (mem_els hr16).1 hk⟩
      · rintro ⟨k, rfl, hk⟩; exact ⟨k, (mem_els hr16).2 hk, rfl⟩
    have hndp : (ints (els r)).Nodup := List.pairwise_map.2 ((els_nodup r).imp fun hne e => hne (by exact Int.ofNat.inj e))
    have hcn : ∀ x ∈ ints (els r), ∀ y ∈ ints (els r), Rc (Ed (rho t)) x y := fun x hx y hy => by
      obtain ⟨a, rfl, ha⟩ := (hmem x).1 hx
      obtain ⟨b, rfl, hb⟩ := (hmem y).1 hy
      exact ((hconn a ha).symm (fun a b => h.rs.sym a b)).trans (hconn b hb)
    have hlen : 1 < (ints (els r)).length := by unfold ints; rw [List.length_map]; exact hc
    refine ⟨hlt', hshut', ?_, ?_, ?_, ?_, ?_, ?_⟩
    · intro p hpm
      rcases List.mem_cons.1 hpm with rfl | hpm
      · intro e; rw [e] at hlen; simp at hlen
      · exact hp.ne p hpm
    · intro p hpm
      rcases List.mem_cons.1 hpm with rfl | hpm
      · exact hcn
      · exact hp.con p hpm
    · intro p hpm x hx y hy
      rcases List.mem_cons.1 hpm with rfl | hpm
      · obtain ⟨a, rfl, ha⟩ := (hmem x).1 hx
        have := h.rng _ _ hy
        obtain ⟨v, rfl⟩ := Int.eq_ofNat_of_zero_le this.1
        exact (hmem _).2 ⟨v, rfl, hnext a v ha hy⟩
      · exact hp.clo p hpm x hx y hy
    · rw [List.flatten_cons, List.nodup_append]
      refine ⟨hndp, hp.nd, fun x hx y hy e => ?_⟩
      subst e
      obtain ⟨a, rfl, ha⟩ := (hmem x).1 hx
      obtain ⟨_, k, e, hk⟩ := hp.out _ hy
      have : a = k := Int.ofNat.inj e
      subst this
      rw [hin a ha] at hk; cases hk
    · intro x hx
      rw [List.flatten_cons] at hx
      rcases List.mem_append.1 hx with g | g
      · obtain ⟨a, rfl, ha⟩ := (hmem x).1 g
        obtain ⟨y, hy, hne⟩ : ∃ y ∈ ints (els r), (a : Int) ≠ y := Classical.byContradiction fun k => by
          have := sub_len (l := ints (els r)) (m := [(a : Int)]) hndp fun y hy => by
            rw [List.mem_singleton]; exact Classical.byContradiction fun q => k ⟨y, hy, fun e => q e.symm⟩
          simp at this; omega
        refine ⟨rc_ni (hcn _ g y hy) hne, a, rfl, ?_⟩
        cases hs : (sdiff l r).testBit a with
        | false => rfl
        | true => rw [((hsd a).1 hs).2] at ha; cases ha
      · exact hout x g
    · intro k hni hk
      rw [List.flatten_cons]
      rcases hcase k hk with g | g
      · exact List.mem_append_right _ (hp.all k hni g)
      · exact List.mem_append_left _ ((hmem _).2 ⟨k, rfl, g⟩)
end Go.Proofs.YtmaaloijdjnblaaGreatDoor

/- The reference's genus is twice the genus. -/
namespace Go.Proofs.YtmaaloijdjnblaaGreatDoor
theorem PI.cap {t : List (List Int)} (h : Tok t) {l : Nat} {ps : List (List Int)} (hp : PI t l ps) : ps.flatten.length ≤ 8 ∧ ps.length ≤ 8 := by
  have h8 := h.n8
  have h1 := sub_len (l := ps.flatten) (m := (List.range t.length).map fun k : Nat => (k : Int)) hp.nd fun x hx => by
    obtain ⟨hni, k, rfl, _⟩ := hp.out x hx
    obtain ⟨y, hy⟩ := ni_iff.1 hni
    have := h.rng' hy
    exact List.mem_map.2 ⟨k, List.mem_range.2 (by omega), rfl⟩
  have h2 := flat_ge 1 (fs := ps) (fun p hp' => List.length_pos_iff.2 (hp.ne p hp'))
  rw [List.length_map, List.length_range] at h1
  omega
theorem twice_l3 {t : List (List Int)} (h : Tok t) : ∃ ps, lp (fun s => F_spec_l22Twice_l3 (ints (nbt t)) s.1 s.2.1 s.2.2) (0, 0, ((2 ^ t.length - 1 : Nat) : Int)) = some (.inl ((ps.flatten.length : Int), (ps.length : Int))) ∧ Part (Ed (rho t)) (Ni (rho t)) ps ∧ ps.flatten.length ≤ 8 ∧ ps.length ≤ 8 := by
  have h8 := h.n8
  have hlen : (nbt t).length = t.length := by simp [nbt]
  have h2n : 2 ^ t.length ≤ 2 ^ 8 := Nat.pow_le_pow_right (by decide) h8
  have hpos : 0 < 2 ^ t.length := Nat.pow_pos (by decide)
  obtain ⟨o, h1, ps, rfl, h2, h3, h4⟩ : ∃ o, lp (fun s => F_spec_l22Twice_l3 (ints (nbt t)) s.1 s.2.1 s.2.2) (0, 0, ((2 ^ t.length - 1 : Nat) : Int)) = some o ∧ ∃ ps : List (List Int), o = .inl ((ps.flatten.length : Int), (ps.length : Int)) ∧ Part (Ed (rho t)) (Ni (rho t)) ps ∧ ps.flatten.length ≤ 8 ∧ ps.length ≤ 8 := by
    refine lp_rule (fun z => ∃ (l : Nat) (ps : List (List Int)), z = ((ps.flatten.length : Int), (ps.length : Int), (l : Int)) ∧ PI t l ps) (fun z => z.2.2.toNat) _ ?_ _ ⟨2 ^ t.length - 1, [], by simp, ?_⟩
    · rintro _ ⟨l, ps, rfl, hp⟩
      have hcap := hp.cap h
      have hl8 : l < 2 ^ 8 := Nat.lt_of_lt_of_le hp.lt h2n
      simp only [F_spec_l22Twice_l3]
      by_cases hl : l = 0
      · subst hl
        rw [if_neg (by simp)]
        refine .inr ⟨_, rfl, ps, rfl, ⟨hp.ne, hp.con, hp.clo, hp.nd, fun x => ⟨fun hx => (hp.out x hx).1, fun hx => ?_⟩⟩, hcap⟩
        obtain ⟨y, hy⟩ := ni_iff.1 hx
        have := h.rng' hy
        have hk := hp.all x.toNat (by rw [Int.toNat_of_nonneg this.1]; exact hx) (by simp)
        rwa [Int.toNat_of_nonneg this.1] at hk
      · have hlow : l.testBit (low l) = true := low_bit hl
        have hl16 : l < 2 ^ 16 := Nat.lt_of_lt_of_le hl8 (by decide)
        have hl62 : l < 2 ^ 62 := Nat.lt_of_lt_of_le hl8 (by decide)
        have hr16 := reach_lt (nbt t) l (low l)
        have hcard : card (reach (nbt t) l (low l)) ≤ 16 := els_len_le _
        have hs := hp.step h hl
        have hlt := sdiff_reach_lt (a := nbt t) hl hl16
        have e1 : i64andn (l : Int) ((reach (nbt t) l (low l) : Nat) : Int) = ((sdiff l (reach (nbt t) l (low l)) : Nat) : Int) := i64andn_nat (Nat.lt_of_lt_of_le hl8 (by decide)) (Nat.lt_of_lt_of_le hr16 (by decide))
        rw [if_pos (by omega), cal_of (l27Low_eq hl hl62), cal_of (l27Part_eq (by omega) (nbt_lt h) (by rw [hlen]; exact hp.lt) hlow), cal_of (l25Many_eq hr16), e1]
        generalize reach (nbt t) l (low l) = r at *
        by_cases hc : 1 < card r
        · have hstep := hs.2 hc
          have hcap' := hstep.cap h
          have el : (ints (els r) :: ps).flatten.length = ps.flatten.length + card r := by
            rw [List.flatten_cons, List.length_append]; unfold ints card; rw [List.length_map]; omega
          rw [if_pos (by omega), ck_of (inI (by omega) (by omega)), cal_of (l25Many_eq hr16), ck_of (inI (by omega) (by omega))]
          refine .inl ⟨_, rfl, ⟨sdiff l r, ints (els r) :: ps, ?_, hstep⟩, ?_⟩
          · rw [el, List.length_cons]; simp
          · show ((sdiff l r : Nat) : Int).toNat < ((l : Nat) : Int).toNat; omega
        · rw [if_neg (by omega)]
          refine .inl ⟨_, rfl, ⟨sdiff l r, ps, rfl, hs.1 (by omega)⟩, ?_⟩
          show ((sdiff l r : Nat) : Int).toNat < ((l : Nat) : Int).toNat; omega
    · refine ⟨by omega, fun u v hu hv => ?_, by simp, by simp, by simp, by simp, by simp, fun k hni hk => ?_⟩
      · have := h.rng _ _ hv
        rw [Nat.testBit_two_pow_sub_one, decide_eq_true_iff]; omega
      · obtain ⟨y, hy⟩ := ni_iff.1 hni
        have := h.rng' hy
        rw [Nat.testBit_two_pow_sub_one, decide_eq_false_iff_not] at hk; omega
  exact ⟨ps, h1, h2, h3, h4⟩
theorem twice_ex {t : List (List Int)} (h : Tok t) : ∃ T, F_spec_l22Twice t = some T ∧ Tw (rho t) T := by
  have h8 := h.n8
  have h64 := n_sq h8
  obtain ⟨ps, p1, p2, p3, p4⟩ := twice_l3 h
  obtain ⟨out, fs, f1, f2, f3⟩ := faces_ex h
  obtain ⟨m, hm⟩ := dl_even h
  have hs : t.flatten.length = 2 * m := by rw [← dl_len]; exact hm
  have hfl : fs.flatten.length = 2 * m := by
    rw [← hm]; exact ((List.perm_ext_iff_of_nodup f2.nd (dl_nodup h)).2 fun d => by rw [f2.mem, mem_dl h]).length_eq
  have hcapf := h.cap f2.nd (fun d hd => (f2.mem d).1 hd)
  have hfle := flat_ge 1 (fs := fs) (fun c hc => List.length_pos_iff.2 (f2.cyc c hc).ne)
  have hrow : ∀ k (hk : k < t.length), t[k].length ≤ 8 := fun k hk => by have := h.len (k : Int); rw [rho_nat hk] at this; omega
  have hsum : ∀ k, (t.take k).flatten.length ≤ t.flatten.length := fun k => by
    have : t.flatten.length = (t.take k).flatten.length + (t.drop k).flatten.length := by rw [← List.length_append, ← List.flatten_append, List.take_append_drop]
    omega
  have hl1 : lp (fun s => F_spec_l22Twice_l1 t s.1 s.2.1 s.2.2) (([] : List Int), 0, 0) = some (.inl (ints (nbt t), ((2 * m : Nat) : Int))) := by
    refine lp_upto (fun k => (ints (nbt (t.take k)), (((t.take k).flatten.length : Nat) : Int), (k : Int))) t.length (by simp [ints, nbt]) (fun k hk => ?_) ?_
    · have hk8 := hrow k hk
      have hmask : F_spec_l25Mask t[k] = some (mk t[k] : Int) := l25Mask_eq (fun v hv => by rw [← rho_nat hk] at hv; have := h.rng _ _ hv; omega) (by omega)
      have e : (t.take (k + 1)).flatten.length = (t.take k).flatten.length + t[k].length := by
        rw [List.take_add_one, List.getElem?_eq_getElem hk, List.flatten_append, List.length_append]; simp
      have e2 : ints (nbt (t.take (k + 1))) = ints (nbt (t.take k)) ++ [(mk t[k] : Int)] := by
        have e0 : t.take (k + 1) = t.take k ++ [t[k]] := by rw [List.take_add_one, List.getElem?_eq_getElem hk]; rfl
        rw [e0]; unfold ints nbt; rw [List.map_append, List.map_append]; rfl
      have := hsum k; have := hsum (k + 1)
      simp only [F_spec_l22Twice_l1]
      rw [if_pos (by omega), idx_nat hk, cal_of hmask, app1_s (by simp [ints, nbt]; omega), idx_nat hk, ck_of (inI (by omega) (by omega)), ck_of (inI (by omega) (by omega)), e2, e]
      simp
    · simp only [F_spec_l22Twice_l1]
      rw [if_neg (by omega), List.take_length, hs]
  have hpow : (1 * 2 ^ ((t.length : Nat) : Int).toNat : Int) = ((2 ^ t.length : Nat) : Int) := by simp
  have h2n : 2 ^ t.length ≤ 2 ^ 8 := Nat.pow_le_pow_right (by decide) h8
  have hpos : 0 < 2 ^ t.length := Nat.pow_pos (by decide)
  have e3 : ((2 ^ t.length : Nat) : Int) - 1 = ((2 ^ t.length - 1 : Nat) : Int) := by omega
  unfold F_spec_l22Twice
  rw [bnd_l hl1]
  unfold F_spec_l22Twice_k2
  rw [grd_of (by omega), hpow, ck_of (inI (by omega) (by omega)), e3, ck_of (inI (by omega) (by omega)), bnd_l p1]
  unfold F_spec_l22Twice_k4
  have hhalf : (((2 * m : Nat) : Int) / 2) = (m : Int) := by omega
  have hm64 : 2 * m ≤ 64 := by omega
  dsimp only
  rw [hhalf, ck_of (inI (by omega) (by omega)), grd_of ⟨by omega, by omega⟩, ck_of (inI (by omega) (by omega)), ck_of (inI (by omega) (by omega)), cal_of f1, ck_of (inI (by omega) (by omega))]
  exact ⟨_, rfl, fs, ps, f2, p2, by omega⟩
end Go.Proofs.YtmaaloijdjnblaaGreatDoor

/- The reference puts an edge in. -/
namespace Go.Proofs.YtmaaloijdjnblaaGreatDoor
theorem rho_set {t : List (List Int)} {u : Nat} (hu : u < t.length) (r : List Int) : rho (t.set u r) = updR (rho t) (u : Int) r := by
  funext x
  unfold rho updR
  show (if 0 ≤ x then (t.set u r).getD x.toNat [] else []) = if x = (u : Int) then r else if 0 ≤ x then t.getD x.toNat [] else []
  by_cases h0 : 0 ≤ x
  · rw [if_pos h0, if_pos h0, List.getD_eq_getElem?_getD, List.getElem?_set]
    by_cases e : x = (u : Int)
    · rw [if_pos e, if_pos (by omega), if_pos hu]; rfl
    · rw [if_neg e, if_neg (by omega), List.getD_eq_getElem?_getD]
  · rw [if_neg h0, if_neg h0, if_neg (by omega)]
theorem put_eq {t : List (List Int)} {u : Nat} (hu : u < t.length) (ht : t.length ≤ 8) (hr : t[u].length ≤ 8) {i : Nat} (hi : i < max t[u].length 1) (v : Int) (hcopy : ∀ l : List Int, l.length ≤ 1048576 → F_spec_l1Copy l = some l) :
    F_spec_l22Put t (u : Int) (i : Int) v = some (t.set u (putl t[u] i v)) := by
  unfold F_spec_l22Put putl
  have e0 : ([] : List (List Int)) ++ t = t := rfl
  rw [app_s (by simp; omega), idx_nat hu]
  by_cases h : t[u] = []
  · rw [if_neg (by rw [h]; simp), if_pos h, e0, idx_nat hu, Int.toNat_natCast]
  · have hl : 0 < t[u].length := List.length_pos_iff.2 h
    have hil : i < t[u].length := by omega
    rw [if_pos (by omega), if_neg h, idx_nat hu, ck_of (inI (by omega) (by omega)), slc_of ⟨by omega, by omega, by omega⟩, idx_nat hu, ck_of (inI (by omega) (by omega)), slc_of ⟨by omega, by omega, by omega⟩]
    have e1 : ((i : Int) + 1).toNat = i + 1 := by omega
    have e2 : (t[u].drop (0 : Int).toNat).take (((i : Int) + 1).toNat - (0 : Int).toNat) = t[u].take (i + 1) := by rw [e1]; simp
    have e3 : (t[u].drop ((i : Int) + 1).toNat).take (((t[u].length : Int)).toNat - ((i : Int) + 1).toNat) = t[u].drop (i + 1) := by
      rw [e1]; exact List.take_of_length_le (by simp)
    rw [e2, e3, cal_of (hcopy _ (by simp; omega)), app1_s (by simp; omega), app_s (by simp; omega), e0, idx_nat hu, Int.toNat_natCast]
    simp
end Go.Proofs.YtmaaloijdjnblaaGreatDoor

/- The program's search: what it does at the end, how it puts an edge in, which corners it takes. -/
namespace Go.Proofs.YtmaaloijdjnblaaGreatDoor
theorem wide_eqR {l : List Int} (hl : l.length ≤ 1000) : F_impl_wide l = some l := by
  unfold F_impl_wide
  have key := lp_upto (step := fun s => F_impl_wide_l1 l s.1 s.2) (fun k => (l.take k, (k : Int))) l.length (o := .inl l) (s := (([] : List Int), 0)) (by simp) (fun k hk => by
    simp only [F_impl_wide_l1]
    rw [if_pos (by omega), idx_nat hk, app1_s (by simp; omega), ck_of (inI (by omega) (by omega)), take_succ_of hk]; rfl) (by
    simp only [F_impl_wide_l1]
    rw [if_neg (by omega), List.take_length])
  rw [grd_of ⟨by omega, by show _ ≤ (1099511627776 : Int); omega⟩, bnd_l key]; rfl
theorem index64_eqR {l : List Int} (hl : l.length ≤ 1000) {u : Int} (hu : u ∈ l) : F_slices_Index_int64 l u = some (l.idxOf u : Int) := by
  unfold F_slices_Index_int64
  have := lp_find (step := fun s => F_slices_Index_int64_l1 l u s) l (fun x => x == u) (fun k => k)
    (fun k hk hp => by
      simp only [F_slices_Index_int64_l1]
      rw [if_pos (by omega), idx_nat hk, if_neg (fun e => by simp [e] at hp), ck_of (inI (by omega) (by omega))])
    (fun k hk hp => by
      simp only [F_slices_Index_int64_l1]
      rw [if_pos (by omega), idx_nat hk, if_pos (by simp at hp; exact hp.symm)])
    (by simp only [F_slices_Index_int64_l1]; rw [if_neg (by omega)])
  have hf : l.findIdx? (fun x => x == u) = some (l.idxOf u) := by
    rw [List.findIdx?_eq_some_iff_findIdx_eq]
    exact ⟨List.idxOf_lt_length_iff.2 hu, rfl⟩
  rw [hf] at this
  rw [bnd_r this]
theorem min64_ex {l : List Int} (hl : l.length ≤ 1000) (hne : 0 < l.length) : ∃ m ∈ l, F_slices_Min_int64 l = some m := by
  obtain ⟨o, h1, m, rfl, hm⟩ : ∃ o, lp (fun s => F_slices_Min_int64_l1 l s.1 s.2) (l[0], 1) = some o ∧ ∃ m : Int, o = .inl m ∧ m ∈ l := by
    refine lp_rule (fun z => ∃ (m : Int) (k : Nat), z = (m, (k : Int)) ∧ k ≤ l.length ∧ m ∈ l) (fun z => l.length - z.2.toNat) _ ?_ _ ⟨l[0], 1, rfl, by omega, List.getElem_mem hne⟩
    rintro _ ⟨m, k, rfl, hk, hm⟩
    simp only [F_slices_Min_int64_l1]
    by_cases h : k < l.length
    · rw [if_pos (by omega), idx_nat h, ck_of (inI (by omega) (by omega))]
      refine .inl ⟨_, rfl, ⟨min m l[k], k + 1, by simp, by omega, ?_⟩, by show l.length - ((k : Int) + 1).toNat < l.length - ((k : Int)).toNat; omega⟩
      rcases Int.le_total m l[k] with g | g
      · rw [Int.min_eq_left g]; exact hm
      · rw [Int.min_eq_right g]; exact List.getElem_mem h
    · rw [if_neg (by omega)]; exact .inr ⟨_, rfl, m, rfl, hm⟩
  refine ⟨m, hm, ?_⟩
  unfold F_slices_Min_int64
  rw [if_neg (by omega), idx_of (x := l[0]) (by omega) (by simp [hne]), bnd_l h1]; rfl
theorem concat2_eq {a b : List Int} (ha : a.length ≤ 1000) (hb : b.length ≤ 1000) : F_slices_Concat_int64 [a, b] = some (a ++ b) := by
  unfold F_slices_Concat_int64
  have h1 : lp (fun s => F_slices_Concat_int64_l1 [a, b] s.1 s.2) ((0 : Int), (0 : Int)) = some (.inl ((a.length + b.length : Nat) : Int)) := by
    refine lp_upto (fun k => (((([a, b].take k).flatten.length : Nat) : Int), (k : Int))) 2 (by simp) (fun k hk => ?_) ?_
    · simp only [F_slices_Concat_int64_l1]
      have hk2 : k < [a, b].length := by simpa using hk
      have hl : ([a, b].take k).flatten.length ≤ 1000 ∧ [a, b][k].length ≤ 1000 ∧ ([a, b].take (k + 1)).flatten.length = ([a, b].take k).flatten.length + [a, b][k].length := by
        match k, hk with
        | 0, _ => exact ⟨by simp, ha, by simp⟩
        | 1, _ => exact ⟨by simpa using ha, hb, by simp⟩
      rw [if_pos (by simp; omega), idx_nat hk2, ck_of (inI (by omega) (by omega)), if_neg (by omega), ck_of (inI (by omega) (by omega)), hl.2.2]; rfl
    · simp only [F_slices_Concat_int64_l1]
      rw [if_neg (by simp)]; simp
  rw [bnd_l h1]
  unfold F_slices_Concat_int64_k2
  have hg : F_slices_Grow_int64 [] ((a.length + b.length : Nat) : Int) = some [] := by
    unfold F_slices_Grow_int64; rw [if_pos ⟨by omega, by omega⟩]
  rw [cal_of hg]
  have h2 : lp (fun s => F_slices_Concat_int64_l3 [a, b] s.1 s.2) (([] : List Int), (0 : Int)) = some (.inl (a ++ b)) := by
    refine lp_upto (fun k => (([a, b].take k).flatten, (k : Int))) 2 (by simp) (fun k hk => ?_) ?_
    · simp only [F_slices_Concat_int64_l3]
      have hk2 : k < [a, b].length := by simpa using hk
      have hl : ([a, b].take k).flatten.length ≤ 1000 ∧ [a, b][k].length ≤ 1000 ∧ ([a, b].take (k + 1)).flatten = ([a, b].take k).flatten ++ [a, b][k] := by
        match k, hk with
        | 0, _ => exact ⟨by simp, ha, by simp⟩
        | 1, _ => exact ⟨by simpa using ha, hb, by simp⟩
      rw [if_pos (by simp; omega), idx_nat hk2, app_s (by omega), ck_of (inI (by omega) (by omega)), hl.2.2]; rfl
    · simp only [F_slices_Concat_int64_l3]
      rw [if_neg (by simp)]; simp
  rw [bnd_l h2]; rfl
theorem around_ex {t : List (List Int)} (ht : t.length ≤ 8) (hr : ∀ x ∈ t, x.length ≤ 8) : ∃ r, F_impl_aroundOf t = some r ∧ r.length ≤ 8 ∧ ∀ x ∈ r, x.length ≤ 8 := by
  obtain ⟨o, h1, r, rfl, h2, h3⟩ := lp_ex (step := fun s => F_impl_aroundOf_l1 t s.1 s.2) (fun (k : Nat) (a : List (List Int)) => (a, (k : Int))) t.length
    (fun k a => a.length = k ∧ ∀ x ∈ a, x.length ≤ 8) (fun o => ∃ r, o = .inl r ∧ r.length ≤ 8 ∧ ∀ x ∈ r, x.length ≤ 8)
    (fun k a hk ⟨ha, hx⟩ => by
      have hk8 := hr _ (List.getElem_mem hk)
      simp only [F_impl_aroundOf_l1]
      rw [if_pos (by omega), idx_nat hk, cal_of (wide_eqR (by omega))]
      have more : ∀ {y : List Int}, y.length ≤ 8 → ∀ x ∈ a ++ [y], x.length ≤ 8 := fun {y} hy x hxm => by
        rcases List.mem_append.1 hxm with g | g
        · exact hx x g
        · rw [List.mem_singleton.1 g]; exact hy
      by_cases hp : 0 < t[k].length
      · obtain ⟨m, hm, hmin⟩ := min64_ex (l := t[k]) (by omega) hp
        have hi := List.idxOf_lt_length_iff.2 hm
        rw [if_pos (by omega), cal_of hmin, cal_of (index64_eqR (by omega) hm), slc_of ⟨by omega, by omega, by omega⟩, slc_of ⟨by omega, by omega, by omega⟩, cal_of (concat2_eq (by simp; omega) (by simp; omega)), app1_s (by omega), ck_of (inI (by omega) (by omega))]
        exact ⟨_, rfl, by simp [ha], more (by simp; omega)⟩
      · rw [if_neg (by omega), app1_s (by omega), ck_of (inI (by omega) (by omega))]
        exact ⟨_, rfl, by simp [ha], more hk8⟩)
    (fun a ⟨ha, hx⟩ => by
      refine ⟨.inl a, ?_, a, rfl, by omega, hx⟩
      simp only [F_impl_aroundOf_l1]; rw [if_neg (by omega)]) t.length 0 [] (by omega) ⟨rfl, by simp⟩
  refine ⟨r, ?_, h2, h3⟩
  unfold F_impl_aroundOf
  have h1 : lp (fun s => F_impl_aroundOf_l1 t s.1 s.2) (([] : List (List Int)), 0) = some (.inl r) := h1
  rw [bnd_l h1]; rfl
theorem cmp64_ex (x y : Int) : ∃ c, F_cmp_Compare_int64 x y = some c := by
  unfold F_cmp_Compare_int64 F_cmp_isNaN_int64
  rw [cal_some_eq, cal_some_eq]
  repeat' split
  all_goals exact ⟨_, rfl⟩
theorem compare64_ex {x y : List Int} (hx : x.length ≤ 1000) : ∃ c, F_slices_Compare_int64 x y = some c := by
  unfold F_slices_Compare_int64
  obtain ⟨o, h1, h2⟩ : ∃ o, lp (fun s => F_slices_Compare_int64_l1 x y s) 0 = some o ∧ (o = .inl () ∨ ∃ c, o = .inr c) := by
    refine lp_rule (fun z => ∃ k : Nat, z = (k : Int) ∧ k ≤ x.length) (fun z => x.length - z.toNat) _ ?_ _ ⟨0, rfl, by omega⟩
    rintro _ ⟨k, rfl, hk⟩
    simp only [F_slices_Compare_int64_l1]
    by_cases h : k < x.length
    · rw [if_pos (by omega), idx_nat h]
      by_cases hy : k < y.length
      · obtain ⟨c, hc⟩ := cmp64_ex x[k] y[k]
        rw [if_neg (by omega), idx_nat hy, cal_of hc]
        by_cases g : c ≠ 0
        · rw [if_pos g]; exact .inr ⟨_, rfl, .inr ⟨_, rfl⟩⟩
        · rw [if_neg g, ck_of (inI (by omega) (by omega))]
          exact .inl ⟨_, rfl, ⟨k + 1, by simp, by omega⟩, by show x.length - ((k : Int) + 1).toNat < x.length - ((k : Int)).toNat; omega⟩
      · rw [if_pos (by omega)]; exact .inr ⟨_, rfl, .inr ⟨_, rfl⟩⟩
    · rw [if_neg (by omega)]; exact .inr ⟨_, rfl, .inl rfl⟩
  rcases h2 with rfl | ⟨c, rfl⟩
  · rw [bnd_l h1]; unfold F_slices_Compare_int64_k2; split <;> exact ⟨_, rfl⟩
  · rw [bnd_r h1]; exact ⟨_, rfl⟩
theorem compareF_ex {a b : List (List Int)} (ha : a.length ≤ 8) (hr : ∀ x ∈ a, x.length ≤ 8) : ∃ c, F_slices_CompareFunc_Sint64 a b (fun z0 z1 => F_slices_Compare_int64 z0 z1) = some c := by
  unfold F_slices_CompareFunc_Sint64
  obtain ⟨o, h1, h2⟩ : ∃ o, lp (fun s => F_slices_CompareFunc_Sint64_l1 a b (fun z0 z1 => F_slices_Compare_int64 z0 z1) s) 0 = some o ∧ (o = .inl () ∨ ∃ c, o = .inr c) := by
    refine lp_rule (fun z => ∃ k : Nat, z = (k : Int) ∧ k ≤ a.length) (fun z => a.length - z.toNat) _ ?_ _ ⟨0, rfl, by omega⟩
    rintro _ ⟨k, rfl, hk⟩
    simp only [F_slices_CompareFunc_Sint64_l1]
    by_cases h : k < a.length
    · have hl := hr _ (List.getElem_mem h)
      rw [if_pos (by omega), idx_nat h]
      by_cases hy : k < b.length
      · obtain ⟨c, hc⟩ := compare64_ex (x := a[k]) (y := b[k]) (by omega)
        rw [if_neg (by omega), idx_nat hy, cal_of hc]
        by_cases g : c ≠ 0
        · rw [if_pos g]; exact .inr ⟨_, rfl, .inr ⟨_, rfl⟩⟩
        · rw [if_neg g, ck_of (inI (by omega) (by omega))]
          exact .inl ⟨_, rfl, ⟨k + 1, by simp, by omega⟩, by show a.length - ((k : Int) + 1).toNat < a.length - ((k : Int)).toNat; omega⟩
      · rw [if_pos (by omega)]; exact .inr ⟨_, rfl, .inr ⟨_, rfl⟩⟩
    · rw [if_neg (by omega)]; exact .inr ⟨_, rfl, .inl rfl⟩
  rcases h2 with rfl | ⟨c, rfl⟩
  · rw [bnd_l h1]; unfold F_slices_CompareFunc_Sint64_k2; split <;> exact ⟨_, rfl⟩
  · rw [bnd_r h1]; exact ⟨_, rfl⟩
theorem each_ex {t : List (List Int)} (ht : t.length ≤ 8) (hr : ∀ x ∈ t, x.length ≤ 8) (s : EmA) : ∃ r, F_emb_each t s = some r ∧ r.1 = true := by
  obtain ⟨x, h1, h2, h3⟩ := around_ex ht hr
  unfold F_emb_each
  rw [cal_of h1]
  by_cases hs : s.1 = true
  · obtain ⟨c, hc⟩ := compareF_ex (b := s.2) h2 h3
    rw [if_pos hs, cal_of hc]
    by_cases g : c < 0
    · rw [if_pos g]; exact ⟨_, rfl, rfl⟩
    · rw [if_neg g]; exact ⟨_, rfl, hs⟩
  · rw [if_neg hs]; exact ⟨_, rfl, rfl⟩
theorem pput_eq {t : List (List Int)} {u : Nat} (hu : u < t.length) (hr : t[u].length ≤ 8) {i : Nat} (hi : i < max t[u].length 1) (v : Int) : F_impl_embedding_put t (u : Int) v (i : Int) = some (t.set u (putl t[u] i v)) := by
  unfold F_impl_embedding_put
  have hc : F_slices_Clone_int t[u] = some t[u] := by unfold F_slices_Clone_int; rw [app_s (by simp; omega)]; rfl
  have hm : min ((i : Int) + 1) (t[u].length : Int) = ((min (i + 1) t[u].length : Nat) : Int) := by omega
  have hi' : F_slices_Insert_int t[u] (min ((i : Int) + 1) (t[u].length : Int)) v = some (putl t[u] i v) := by
    unfold F_slices_Insert_int putl
    rw [hm, if_pos ⟨by omega, by omega, by omega⟩, Int.toNat_natCast]
    by_cases h : t[u] = []
    · rw [if_pos h, h]; simp
    · have := List.length_pos_iff.2 h
      rw [if_neg h, Nat.min_eq_left (by omega)]
  rw [idx_nat hu, ck_of (inI (by omega) (by omega)), idx_nat hu, cal_of hc, cal_of hi', Int.toNat_natCast]
theorem corner_eq {t : List (List Int)} (h : Tok t) {T : Tf (Int × Int)} {fs : List (List (Int × Int))} (hd : Dec (fst (rho t)) (Dt (rho t)) fs) (hT : TI T fs []) {u v : Int} {i m : Nat} (hi : i < max (rho t u).length 1) (hm : m < max (rho t v).length 1) :
    ∃ c, F_emb_corner T (rho t u) (rho t v) u v (i : Int) (m : Int) = some c ∧ (c = false ↔ Fce (rho t) u v (rho t u)[i]? (rho t v)[m]?) := by
  unfold F_emb_corner
  by_cases h1 : 0 < (rho t u).length
  · have hiu : i < (rho t u).length := by omega
    by_cases h2 : 0 < (rho t v).length
    · have hmv : m < (rho t v).length := by omega
      rw [if_pos (by omega), if_pos (by omega), idx_nat hiu, idx_nat hmv]
      refine ⟨_, rfl, ?_⟩
      rw [List.getElem?_eq_getElem hiu, List.getElem?_eq_getElem hmv, decide_eq_false_iff_not]
      have e := hT.same hd (d := ((rho t u)[i], u)) (d' := ((rho t v)[m], v)) (h.rs.sym _ _ (List.getElem_mem hiu)) (h.rs.sym _ _ (List.getElem_mem hmv))
      show ¬ (_ ≠ _) ↔ Rc (fun a b => fst (rho t) a = b) ((rho t u)[i], u) ((rho t v)[m], v)
      rw [← e]
      exact ⟨fun g => Classical.byContradiction fun k => g k, fun g k => k g⟩
    · rw [if_pos (by omega), if_neg (by omega)]
      refine ⟨_, rfl, fun _ => ?_, fun _ => rfl⟩
      rw [List.getElem?_eq_none (l := rho t v) (by omega)]
      cases (rho t u)[i]? <;> trivial
  · rw [if_neg (by omega)]
    refine ⟨_, rfl, fun _ => ?_, fun _ => rfl⟩
    rw [List.getElem?_eq_none (l := rho t u) (by omega)]; trivial
end Go.Proofs.YtmaaloijdjnblaaGreatDoor

/- The reference's search: what it does beside searching. -/
namespace Go.Proofs.YtmaaloijdjnblaaGreatDoor
theorem first_ex {l : List Int} (hl : l.length ≤ 8) (hcopy : ∀ l : List Int, l.length ≤ 1048576 → F_spec_l1Copy l = some l) : ∃ r, F_spec_l22First l = some r ∧ r.length ≤ 8 := by
  obtain ⟨o, h1, at_, rfl, hat⟩ : ∃ o, lp (fun s => F_spec_l22First_l1 l s.1 s.2) (0, 0) = some o ∧ ∃ k : Nat, o = .inl (k : Int) ∧ k ≤ l.length := by
    refine lp_rule (fun z => ∃ a k : Nat, z = ((a : Int), (k : Int)) ∧ k ≤ l.length ∧ (a = 0 ∨ a < l.length)) (fun z => l.length - z.2.toNat) _ ?_ _ ⟨0, 0, rfl, by omega, .inl rfl⟩
    rintro _ ⟨a, k, rfl, hk, ha⟩
    simp only [F_spec_l22First_l1]
    by_cases h : k < l.length
    · have ha' : a < l.length := by omega
      rw [if_pos (by omega), idx_nat h, idx_nat ha']
      refine .inl ?_
      by_cases g : l[k] < l[a]
      · rw [if_pos g, ck_of (inI (by omega) (by omega))]
        exact ⟨_, rfl, ⟨k, k + 1, by simp, by omega, .inr h⟩, by show l.length - ((k : Int) + 1).toNat < l.length - ((k : Int)).toNat; omega⟩
      · rw [if_neg g, ck_of (inI (by omega) (by omega))]
        exact ⟨_, rfl, ⟨a, k + 1, by simp, by omega, ha⟩, by show l.length - ((k : Int) + 1).toNat < l.length - ((k : Int)).toNat; omega⟩
    · rw [if_neg (by omega)]
      exact .inr ⟨_, rfl, a, rfl, by omega⟩
  unfold F_spec_l22First
  rw [bnd_l h1]
  unfold F_spec_l22First_k2
  rw [slc_of ⟨by omega, by omega, by omega⟩, slc_of ⟨by omega, by omega, by omega⟩, cal_of (hcopy _ (by simp; omega)), app_s (by simp; omega)]
  exact ⟨_, rfl, by simp; omega⟩
theorem less1_ex {x y : List Int} (hx : x.length ≤ 1048576) : ∃ c, F_spec_l1Less x y = some c := by
  unfold F_spec_l1Less
  by_cases e : (x.length : Int) = y.length
  · rw [if_neg (fun g => g e)]
    obtain ⟨o, h1, h2⟩ : ∃ o, lp (fun s => F_spec_l1Less_l1 x y s) 0 = some o ∧ (o = .inl () ∨ ∃ c, o = .inr c) := by
      refine lp_rule (fun z => ∃ k : Nat, z = (k : Int) ∧ k ≤ x.length) (fun z => x.length - z.toNat) _ ?_ _ ⟨0, rfl, by omega⟩
      rintro _ ⟨k, rfl, hk⟩
      simp only [F_spec_l1Less_l1]
      by_cases h : k < x.length
      · have hy : k < y.length := by omega
        rw [if_pos (by omega), idx_nat h, idx_nat hy]
        by_cases g : x[k] ≠ y[k]
        · rw [if_pos g, idx_nat h, idx_nat hy]; exact .inr ⟨_, rfl, .inr ⟨_, rfl⟩⟩
        · rw [if_neg g, ck_of (inI (by omega) (by omega))]
          exact .inl ⟨_, rfl, ⟨k + 1, by simp, by omega⟩, by show x.length - ((k : Int) + 1).toNat < x.length - ((k : Int)).toNat; omega⟩
      · rw [if_neg (by omega)]; exact .inr ⟨_, rfl, .inl rfl⟩
    rcases h2 with rfl | ⟨c, rfl⟩
    · rw [bnd_l h1]; exact ⟨_, rfl⟩
    · rw [bnd_r h1]; exact ⟨_, rfl⟩
  · rw [if_pos e]; exact ⟨_, rfl⟩
theorem less_ex {a b : List (List Int)} (hab : a.length ≤ b.length) (ha : a.length ≤ 8) (hr : ∀ x ∈ a, x.length ≤ 8) : ∃ c, F_spec_l22Less a b = some c := by
  unfold F_spec_l22Less
  obtain ⟨o, h1, h2⟩ : ∃ o, lp (fun s => F_spec_l22Less_l1 a b s) 0 = some o ∧ (o = .inl () ∨ ∃ c, o = .inr c) := by
    refine lp_rule (fun z => ∃ k : Nat, z = (k : Int) ∧ k ≤ a.length) (fun z => a.length - z.toNat) _ ?_ _ ⟨0, rfl, by omega⟩
    rintro _ ⟨k, rfl, hk⟩
    simp only [F_spec_l22Less_l1]
    by_cases h : k < a.length
    · have hb : k < b.length := by omega
      have hl := hr _ (List.getElem_mem h)
      rw [if_pos (by omega), idx_nat h, idx_nat hb, cal_of (l1Same_eq _ _ (by omega))]
      by_cases g : a[k] = b[k]
      · rw [if_neg (by simpa using g), ck_of (inI (by omega) (by omega))]
        exact .inl ⟨_, rfl, ⟨k + 1, by simp, by omega⟩, by show a.length - ((k : Int) + 1).toNat < a.length - ((k : Int)).toNat; omega⟩
      · obtain ⟨c, hc⟩ := less1_ex (x := a[k]) (y := b[k]) (by omega)
        rw [if_pos (by simpa using g), idx_nat h, idx_nat hb, cal_of hc]
        exact .inr ⟨_, rfl, .inr ⟨_, rfl⟩⟩
    · rw [if_neg (by omega)]; exact .inr ⟨_, rfl, .inl rfl⟩
  rcases h2 with rfl | ⟨c, rfl⟩
  · rw [bnd_l h1]; exact ⟨_, rfl⟩
  · rw [bnd_r h1]; exact ⟨_, rfl⟩
end Go.Proofs.YtmaaloijdjnblaaGreatDoor

/- The reference's search, as a plain function. -/
namespace Go.Proofs.YtmaaloijdjnblaaGreatDoor
def putW (t : List (List Int)) (u v : Int) (i k : Nat) : List (List Int) := (t.set u.toNat (putl (rho t u) i v)).set v.toNat (putl (rho t v) k u)
theorem rho_put {t : List (List Int)} {u v : Int} (hu : 0 ≤ u ∧ u < t.length) (hv : 0 ≤ v ∧ v < t.length) {i k : Nat} : rho (putW t u v i k) = putE (rho t) u v i k := by
  unfold putW putE
  have h1 := rho_set (t := t) (u := u.toNat) (by omega) (putl (rho t u) i v)
  have h2 := rho_set (t := t.set u.toNat (putl (rho t u) i v)) (u := v.toNat) (by rw [List.length_set]; omega) (putl (rho t v) k u)
  rw [h2, h1, Int.toNat_of_nonneg hu.1, Int.toNat_of_nonneg hv.1]
theorem Tok.put {t : List (List Int)} (h : Tok t) {u v : Int} (hu : 0 ≤ u ∧ u < t.length) (hv : 0 ≤ v ∧ v < t.length) (hne : u ≠ v) (hn : v ∉ rho t u) {i k : Nat} (hi : i < max (rho t u).length 1) (hk : k < max (rho t v).length 1) : Tok (putW t u v i k) where
  n8 := by unfold putW; rw [List.length_set, List.length_set]; exact h.n8
  rs := by rw [rho_put hu hv]; exact (putE_ins h.rs hne hn hi hk).rs h.rs
  rng x y hy := by
    have hl : (putW t u v i k).length = t.length := by unfold putW; rw [List.length_set, List.length_set]
    rw [rho_put hu hv, (putE_ins h.rs hne hn hi hk).row] at hy
    rw [hl]
    rcases hy with g | ⟨_, rfl⟩ | ⟨_, rfl⟩
    · exact h.rng x y g
    · exact hv
    · exact hu
noncomputable def frs (l : List Int) : List Int := (F_spec_l22First l).getD []
noncomputable def lsT (a b : List (List Int)) : Bool := (F_spec_l22Less a b).getD false
open Classical in
noncomputable def S22 : List (Int × Int) → List (List Int) → Nat × List (List Int) → Nat × List (List Int)
  | [], t, w => if Tw (rho t) 0 then (w.1 + 1, if w.2 = [] then t.map frs else if lsT (t.map frs) w.2 = true then t.map frs else w.2) else w
  | (u, v) :: es, t, w => if Tw (rho t) 0 then (List.range (max (rho t u).length 1)).foldl (fun w i => (List.range (max (rho t v).length 1)).foldl (fun w k => S22 es (putW t u v i k) w) w) w else w
theorem foldl_ge {A : Type} (f : Nat × A → Nat → Nat × A) (h : ∀ w i, w.1 ≤ (f w i).1) : ∀ (l : List Nat) (w : Nat × A), w.1 ≤ (l.foldl f w).1
  | [], w => Nat.le_refl _
  | i :: l, w => Nat.le_trans (h w i) (foldl_ge f h l _)
theorem S22_ge : ∀ (es : List (Int × Int)) (t : List (List Int)) (w : Nat × List (List Int)), w.1 ≤ (S22 es t w).1
  | [], t, w => by rw [S22]; split <;> simp
  | (u, v) :: es, t, w => by
    rw [S22]; split
    · exact foldl_ge _ (fun w i => foldl_ge _ (fun w k => S22_ge es _ w) _ _) _ _
    · exact Nat.le_refl _
theorem foldl_inv {A : Type} {P : A → Prop} (f : A → Nat → A) : ∀ (l : List Nat) (w : A), P w → (∀ w i, i ∈ l → P w → P (f w i)) → P (l.foldl f w)
  | [], w, h, _ => h
  | i :: l, w, h, hf => foldl_inv f l (f w i) (hf w i (by simp) h) (fun w j hj => hf w j (by simp [hj]))
theorem putW_len (t : List (List Int)) (u v : Int) (i k : Nat) : (putW t u v i k).length = t.length := by unfold putW; rw [List.length_set, List.length_set]
theorem S22_best {n : Nat} : ∀ (es : List (Int × Int)) (t : List (List Int)) (w : Nat × List (List Int)), t.length = n → (w.2 = [] ∨ w.2.length = n) → ((S22 es t w).2 = [] ∨ (S22 es t w).2.length = n)
  | [], t, w, ht, hw => by
    rw [S22]; split
    · dsimp only; split
      · exact .inr (by simp [ht])
      · split
        · exact .inr (by simp [ht])
        · exact hw
    · exact hw
  | (u, v) :: es, t, w, ht, hw => by
    rw [S22]; split
    · refine foldl_inv (P := fun w : Nat × List (List Int) => w.2 = [] ∨ w.2.length = n) _ _ _ hw fun w i _ hw => ?_
      exact foldl_inv (P := fun w : Nat × List (List Int) => w.2 = [] ∨ w.2.length = n) _ _ _ hw fun w k _ hw => S22_best es _ w (by rw [putW_len]; exact ht) hw
    · exact hw
structure Rdy (t : List (List Int)) (es : List (Int × Int)) : Prop where
  tok : Tok t
  st : ∃ done, (∀ a b, b ∈ rho t a ↔ El done a b) ∧ UE (done ++ es)
  rng : ∀ e ∈ es, (0 ≤ e.1 ∧ e.1 < t.length) ∧ 0 ≤ e.2 ∧ e.2 < t.length
theorem Rdy.new {t : List (List Int)} {es : List (Int × Int)} {u v : Int} (h : Rdy t ((u, v) :: es)) : u ≠ v ∧ v ∉ rho t u := by
  obtain ⟨done, h1, h2⟩ := h.st
  obtain ⟨hne, hnew⟩ := h2.new
  exact ⟨hne, fun g => hnew ((h1 u v).1 g)⟩
theorem Rdy.step {t : List (List Int)} {es : List (Int × Int)} {u v : Int} (h : Rdy t ((u, v) :: es)) {i k : Nat} (hi : i < max (rho t u).length 1) (hk : k < max (rho t v).length 1) : Rdy (putW t u v i k) es := by
  obtain ⟨hu, hv⟩ := h.rng (u, v) (by simp)
  obtain ⟨hne, hn⟩ := h.new
  obtain ⟨done, h1, h2⟩ := h.st
  refine ⟨h.tok.put hu hv hne hn hi hk, ⟨done ++ [(u, v)], fun a b => ?_, by simpa using h2⟩, fun e he => by rw [putW_len]; exact h.rng e (by simp [he])⟩
  rw [rho_put hu hv, (putE_ins h.tok.rs hne hn hi hk).row, h1, el_snoc]
end Go.Proofs.YtmaaloijdjnblaaGreatDoor

/- The reference's search is that function. -/
namespace Go.Proofs.YtmaaloijdjnblaaGreatDoor
theorem range_le {A : Type} {f : Nat × A → Nat → Nat × A} (h : ∀ w i, w.1 ≤ (f w i).1) {a : Nat} (w : Nat × A) : ∀ {b : Nat}, a ≤ b → ((List.range a).foldl f w).1 ≤ ((List.range b).foldl f w).1
  | 0, hab => by have : a = 0 := by omega
                 subst this; exact Nat.le_refl _
  | b + 1, hab => by
    rcases Nat.lt_or_ge a (b + 1) with g | g
    · rw [List.range_succ, List.foldl_append]
      exact Nat.le_trans (range_le h w (by omega)) (h _ _)
    · have : a = b + 1 := by omega
      subst this; exact Nat.le_refl _
def pr (e : Int × Int) : List Int := [e.1, e.2]
noncomputable def inn (es : List (Int × Int)) (t : List (List Int)) (u v : Int) (w : Nat × List (List Int)) (i : Nat) : Nat × List (List Int) := (List.range (max (rho t v).length 1)).foldl (fun w k => S22 es (putW t u v i k) w) w
theorem inn_ge (es : List (Int × Int)) (t : List (List Int)) (u v : Int) (w : Nat × List (List Int)) (i : Nat) : w.1 ≤ (inn es t u v w i).1 := foldl_ge _ (fun w k => S22_ge es _ w) _ _
theorem row_nat {t : List (List Int)} (h : Tok t) {u : Nat} (hu : u < t.length) : t[u].length ≤ 8 := by
  have := h.len (u : Int); have := h.n8; rw [rho_nat hu] at *; omega
theorem put2_eq {t : List (List Int)} {es : List (Int × Int)} {u v : Nat} (h : Rdy t (((u : Int), (v : Int)) :: es)) {i k : Nat} (hi : i < max (rho t (u : Int)).length 1) (hk : k < max (rho t (v : Int)).length 1) (hcopy : ∀ l : List Int, l.length ≤ 1048576 → F_spec_l1Copy l = some l)
    {β : Type} (K : List (List Int) → Option β) :
    cal (F_spec_l22Put t (u : Int) (i : Int) (v : Int)) (fun x => cal (F_spec_l22Put x (v : Int) (k : Int) (u : Int)) K) = K (putW t (u : Int) (v : Int) i k) := by
  obtain ⟨⟨_, hu⟩, _, hv⟩ := h.rng ((u : Int), (v : Int)) (by simp)
  have hu : u < t.length := by simpa using hu
  have hv : v < t.length := by simpa using hv
  have hne := h.new.1
  have hne' : u ≠ v := fun e => hne (by rw [e])
  have h8 := h.tok.n8
  rw [rho_nat hu] at hi
  rw [rho_nat hv] at hk
  have hg : (t.set u (putl t[u] i (v : Int)))[v]'(by rw [List.length_set]; exact hv) = t[v] := List.getElem_set_ne hne' _
  rw [cal_of (put_eq hu h8 (row_nat h.tok hu) hi (v : Int) hcopy), cal_of (put_eq (t := t.set u (putl t[u] i (v : Int))) (u := v) (by rw [List.length_set]; exact hv) (by rw [List.length_set]; exact h8) (by rw [hg]; exact row_nat h.tok hv) (by rw [hg]; exact hk) (u : Int) hcopy)]
  unfold putW
  rw [hg, Int.toNat_natCast, Int.toNat_natCast, rho_nat hu, rho_nat hv]
theorem inner_eq {t : List (List Int)} {es : List (Int × Int)} {u v : Nat} (h : Rdy t (((u : Int), (v : Int)) :: es)) (hes : es.length ≤ 1000) {i : Nat} (hi : i < max (rho t (u : Int)).length 1) (hcopy : ∀ l : List Int, l.length ≤ 1048576 → F_spec_l1Copy l = some l)
    (rc : (List (List Int)) → (List (List Int)) → Int → (List (List Int)) → Option (Int × (List (List Int)))) (w : Nat × List (List Int)) (hw : (inn es t u v w i).1 ≤ 2 ^ 62) (hb : w.2 = [] ∨ w.2.length = t.length)
    (hrc : ∀ t' (w : Nat × List (List Int)), Rdy t' es → t'.length = t.length → (S22 es t' w).1 ≤ 2 ^ 62 → (w.2 = [] ∨ w.2.length = t.length) → rc (es.map pr) t' (w.1 : Int) w.2 = some (((S22 es t' w).1 : Int), (S22 es t' w).2)) :
    lp (fun s => F_spec_l22Search_l4 (pr ((u : Int), (v : Int)) :: es.map pr) t rc (u : Int) (v : Int) (i : Int) s.1 s.2.1 s.2.2) ((w.1 : Int), w.2, 0) = some (.inl (((inn es t u v w i).1 : Int), (inn es t u v w i).2)) := by
  obtain ⟨⟨_, hu⟩, _, hv⟩ := h.rng ((u : Int), (v : Int)) (by simp)
  have hu : u < t.length := by simpa using hu
  have hv : v < t.length := by simpa using hv
  have hvl := row_nat h.tok hv
  have hM : (rho t (v : Int)).length = t[v].length := by rw [rho_nat hv]
  let g : Nat → Nat × List (List Int) := fun k => (List.range k).foldl (fun w k => S22 es (putW t u v i k) w) w
  have hg1 : ∀ k, g (k + 1) = S22 es (putW t u v i k) (g k) := fun k => by show (List.range (k + 1)).foldl _ _ = _; rw [List.range_succ, List.foldl_append]; rfl
  have hgb : ∀ k, (g k).2 = [] ∨ (g k).2.length = t.length := fun k => foldl_inv (P := fun w : Nat × List (List Int) => w.2 = [] ∨ w.2.length = t.length) _ _ _ hb fun w k _ hw => S22_best es _ w (putW_len ..) hw
  refine lp_upto (fun k => (((g k).1 : Int), (g k).2, (k : Int))) (max (rho t (v : Int)).length 1) rfl (fun k hk => ?_) ?_
  · have hle : (S22 es (putW t u v i k) (g k)).1 ≤ 2 ^ 62 := by
      rw [← hg1]; exact Nat.le_trans (range_le (fun w k => S22_ge es _ w) w hk) hw
    have hcall := hrc (putW t u v i k) (g k) (h.step hi hk) (putW_len ..) hle (hgb k)
    have hs : ((pr ((u : Int), (v : Int)) :: es.map pr).drop (1 : Int).toNat).take (((pr ((u : Int), (v : Int)) :: es.map pr).length : Int).toNat - (1 : Int).toNat) = es.map pr := by
      rw [show (1 : Int).toNat = 1 from rfl]; exact List.take_of_length_le (by simp)
    simp only [F_spec_l22Search_l4]
    by_cases k0 : (k : Int) = 0
    · rw [if_pos k0]
      rw [slc_of ⟨by omega, by simp; omega, by omega⟩, put2_eq h hi hk hcopy, hs, cal_of hcall, ck_of (inI (by omega) (by omega)), hg1]; rfl
    · rw [if_neg k0, idx_nat hv, if_pos (by omega)]
      rw [slc_of ⟨by omega, by simp; omega, by omega⟩, put2_eq h hi hk hcopy, hs, cal_of hcall, ck_of (inI (by omega) (by omega)), hg1]; rfl
  · simp only [F_spec_l22Search_l4]
    rw [if_neg (by omega), idx_nat hv, if_neg (by omega)]; rfl
theorem l6_l4 (a0 a1 : List (List Int)) (rc : (List (List Int)) → (List (List Int)) → Int → (List (List Int)) → Option (Int × (List (List Int)))) (x y i : Int) : (fun s : Int × List (List Int) × Int => F_spec_l22Search_l6 a0 a1 rc x y i s.1 s.2.1 s.2.2) = fun s => F_spec_l22Search_l4 a0 a1 rc x y i s.1 s.2.1 s.2.2 := rfl
theorem outer_eq {t : List (List Int)} {es : List (Int × Int)} {u v : Nat} (h : Rdy t (((u : Int), (v : Int)) :: es)) (hes : es.length ≤ 1000) (hcopy : ∀ l : List Int, l.length ≤ 1048576 → F_spec_l1Copy l = some l)
    (rc : (List (List Int)) → (List (List Int)) → Int → (List (List Int)) → Option (Int × (List (List Int)))) (w : Nat × List (List Int)) (hT : Tw (rho t) 0) (hw : (S22 (((u : Int), (v : Int)) :: es) t w).1 ≤ 2 ^ 62) (hb : w.2 = [] ∨ w.2.length = t.length)
    (hrc : ∀ t' (w : Nat × List (List Int)), Rdy t' es → t'.length = t.length → (S22 es t' w).1 ≤ 2 ^ 62 → (w.2 = [] ∨ w.2.length = t.length) → rc (es.map pr) t' (w.1 : Int) w.2 = some (((S22 es t' w).1 : Int), (S22 es t' w).2)) :
    lp (fun s => F_spec_l22Search_l3 (pr ((u : Int), (v : Int)) :: es.map pr) t rc (u : Int) (v : Int) s.1 s.2.1 s.2.2) ((w.1 : Int), w.2, 0) = some (.inl (((S22 (((u : Int), (v : Int)) :: es) t w).1 : Int), (S22 (((u : Int), (v : Int)) :: es) t w).2)) := by
  obtain ⟨⟨_, hu⟩, _, hv⟩ := h.rng ((u : Int), (v : Int)) (by simp)
  have hu : u < t.length := by simpa using hu
  have hul := row_nat h.tok hu
  have hM : (rho t (u : Int)).length = t[u].length := by rw [rho_nat hu]
  have hS : S22 (((u : Int), (v : Int)) :: es) t w = (List.range (max (rho t (u : Int)).length 1)).foldl (fun w i => inn es t u v w i) w := by rw [S22, if_pos hT]; rfl
  rw [hS] at hw ⊢
  let g : Nat → Nat × List (List Int) := fun k => (List.range k).foldl (fun w i => inn es t u v w i) w
  have hg1 : ∀ k, g (k + 1) = inn es t u v (g k) k := fun k => by show (List.range (k + 1)).foldl _ _ = _; rw [List.range_succ, List.foldl_append]; rfl
  have hgb : ∀ k, (g k).2 = [] ∨ (g k).2.length = t.length := fun k => foldl_inv (P := fun w : Nat × List (List Int) => w.2 = [] ∨ w.2.length = t.length) _ _ _ hb fun w i _ hw =>
    foldl_inv (P := fun w : Nat × List (List Int) => w.2 = [] ∨ w.2.length = t.length) _ _ _ hw fun w k _ hw => S22_best es _ w (putW_len ..) hw
  refine lp_upto (fun k => (((g k).1 : Int), (g k).2, (k : Int))) (max (rho t (u : Int)).length 1) rfl (fun k hk => ?_) ?_
  · have hle : (inn es t u v (g k) k).1 ≤ 2 ^ 62 := by
      rw [← hg1]; exact Nat.le_trans (range_le (fun w k => inn_ge es t u v w k) w hk) hw
    have hin := inner_eq h hes hk hcopy rc (g k) hle (hgb k) hrc
    simp only [F_spec_l22Search_l3]
    by_cases k0 : (k : Int) = 0
    · rw [if_pos k0, bnd_l hin]
      unfold F_spec_l22Search_k5
      rw [ck_of (inI (by omega) (by omega)), hg1]; rfl
    · rw [if_neg k0, idx_nat hu, if_pos (by omega), l6_l4, bnd_l hin]
      unfold F_spec_l22Search_k7
      rw [ck_of (inI (by omega) (by omega)), hg1]; rfl
  · simp only [F_spec_l22Search_l3]
    rw [if_neg (by omega), idx_nat hu, if_neg (by omega)]
theorem search_eq (hcopy : ∀ l : List Int, l.length ≤ 1048576 → F_spec_l1Copy l = some l) {es : List (Int × Int)} {t : List (List Int)} {w : Nat × List (List Int)} (h : Rdy t es) (hes : es.length ≤ 1000) (hw : (S22 es t w).1 ≤ 2 ^ 62) (hb : w.2 = [] ∨ w.2.length = t.length) :
    F_spec_l22Search (es.map pr) t (w.1 : Int) w.2 = some (((S22 es t w).1 : Int), (S22 es t w).2) := by
  unfold F_spec_l22Search
  refine fixO_ind (J := List (Int × Int) × List (List Int) × (Nat × List (List Int))) (fun j => (j.1.map pr, j.2.1, (j.2.2.1 : Int), j.2.2.2)) (fun j => j.1.length) (fun j => (((S22 j.1 j.2.1 j.2.2).1 : Int), (S22 j.1 j.2.1 j.2.2).2))
    (fun j => Rdy j.2.1 j.1 ∧ j.1.length ≤ 1000 ∧ (S22 j.1 j.2.1 j.2.2).1 ≤ 2 ^ 62 ∧ (j.2.2.2 = [] ∨ j.2.2.2.length = j.2.1.length)) ?_ (es, t, w) ⟨h, hes, hw, hb⟩
  clear hb hw hes h w t es
  rintro R ⟨es, t, w⟩ ⟨h, hes, hw, hb⟩ ih
  dsimp only at h hes hw hb ih ⊢
  have h8 := h.tok.n8
  obtain ⟨T, e1, e2⟩ := twice_ex h.tok
  unfold F_spec_l22Search_body
  rw [cal_of e1]
  by_cases hT : T = 0
  · subst hT
    rw [if_neg (fun g => g rfl)]
    cases es with
    | nil =>
      rw [if_pos (by simp)]
      have hS : S22 [] t w = (w.1 + 1, if w.2 = [] then t.map frs else if lsT (t.map frs) w.2 = true then t.map frs else w.2) := by rw [S22, if_pos e2]
      rw [hS] at hw ⊢
      have hrow : ∀ k (hk : k < t.length), F_spec_l22First t[k] = some (frs t[k]) ∧ (frs t[k]).length ≤ 8 := fun k hk => by
        obtain ⟨r, hr, hr2⟩ := first_ex (row_nat h.tok hk) hcopy
        have : frs t[k] = r := by unfold frs; rw [hr]; rfl
        rw [this]; exact ⟨hr, hr2⟩
      have hl : lp (fun s => F_spec_l22Search_l1 t s.1 s.2) (([] : List (List Int)), 0) = some (.inl (t.map frs)) := by
        refine lp_upto (fun k => ((t.take k).map frs, (k : Int))) t.length rfl (fun k hk => ?_) ?_
        · have e0 : t.take (k + 1) = t.take k ++ [t[k]] := by rw [List.take_add_one, List.getElem?_eq_getElem hk]; rfl
          simp only [F_spec_l22Search_l1]
          rw [if_pos (by omega), idx_nat hk, cal_of (hrow k hk).1, app1_s (by simp; omega), ck_of (inI (by omega) (by omega)), e0, List.map_append]; rfl
        · simp only [F_spec_l22Search_l1]
          rw [if_neg (by omega), List.take_length]
      rw [bnd_l hl]
      unfold F_spec_l22Search_k2
      rw [ck_of (inI (by omega) (by simp only at hw; omega))]
      by_cases hb0 : w.2 = []
      · rw [if_pos (by rw [hb0]; rfl), if_pos hb0]; rfl
      · have hbl := hb.resolve_left hb0
        have hpos := List.length_pos_iff.2 hb0
        obtain ⟨c, hc⟩ := less_ex (a := t.map frs) (b := w.2) (by rw [List.length_map]; omega) (by rw [List.length_map]; omega) (fun x hx => by
          obtain ⟨y, hy, rfl⟩ := List.mem_map.1 hx
          obtain ⟨k, hk, rfl⟩ := List.getElem_of_mem hy
          exact (hrow k hk).2)
        have hlt : lsT (t.map frs) w.2 = c := by unfold lsT; rw [hc]; rfl
        rw [if_neg (by omega), if_neg hb0, cal_of hc, hlt]
        cases c with
        | true => rw [if_pos rfl, if_pos rfl]; rfl
        | false => rw [if_neg (by simp), if_neg (by simp)]; rfl
    | cons e es =>
      obtain ⟨u', v'⟩ := e
      obtain ⟨⟨hu0, hu⟩, hv0, hv⟩ := h.rng (u', v') (by simp)
      obtain ⟨u, rfl⟩ := Int.eq_ofNat_of_zero_le hu0
      obtain ⟨v, rfl⟩ := Int.eq_ofNat_of_zero_le hv0
      rw [if_neg (by simp; omega)]
      have hes' : es.length ≤ 1000 := by simp at hes; omega
      have ho := outer_eq h hes' hcopy (fun z0 z1 z2 z3 => R (z0, z1, z2, z3)) w e2 hw hb (fun t' w' hr hl hle hb' => ih (es, t', w') ⟨hr, hes', hle, by rw [hl]; exact hb'⟩ (by simp))
      show idx (pr ((u : Int), (v : Int)) :: es.map pr) 0 _ = _
      rw [idx_of (x := pr ((u : Int), (v : Int))) (by omega) rfl, idx_of (x := (u : Int)) (by omega) rfl, idx_of (x := pr ((u : Int), (v : Int))) (by omega) rfl, idx_of (x := (v : Int)) (by omega) rfl]
      exact (bnd_l ho).trans rfl
  · rw [if_pos hT]
    have hn : ¬ Tw (rho t) 0 := fun g => hT (e2.uniq g)
    have hS : S22 es t w = w := by
      cases es with
      | nil => rw [S22, if_neg hn]
      | cons e es => obtain ⟨a, b⟩ := e; rw [S22, if_neg hn]
    rw [hS]
end Go.Proofs.YtmaaloijdjnblaaGreatDoor

/- The reference's search: how much it counts, and when it finds one. -/
namespace Go.Proofs.YtmaaloijdjnblaaGreatDoor
def gq : Nat → Nat
  | 0 => 1
  | 1 => 2
  | 2 => 4
  | 3 => 6
  | 4 => 6
  | 5 => 4
  | 6 => 2
  | _ => 1
theorem gq_pos (k : Nat) : 1 ≤ gq k := by unfold gq; split <;> omega
theorem gq_step {k : Nat} (h : k ≤ 6) : max k 1 * gq (k + 1) ≤ 3 * gq k := by
  match k, h with
  | 0, _ => decide
  | 1, _ => decide
  | 2, _ => decide
  | 3, _ => decide
  | 4, _ => decide
  | 5, _ => decide
  | 6, _ => decide
def GL : List Nat → Nat
  | [] => 1
  | k :: t => gq k * GL t
theorem GL_pos : ∀ t : List Nat, 1 ≤ GL t
  | [] => Nat.le_refl _
  | k :: t => Nat.mul_pos (gq_pos k) (GL_pos t)
theorem GL_set {a r : Nat} : ∀ (t : List Nat) (u : Nat) (hu : u < t.length), a * gq r ≤ 3 * gq t[u] → a * GL (t.set u r) ≤ 3 * GL t
  | k :: t, 0, _, h => by
    have h : a * gq r ≤ 3 * gq k := h
    show a * (gq r * GL t) ≤ 3 * (gq k * GL t)
    rw [← Nat.mul_assoc, ← Nat.mul_assoc]; exact Nat.mul_le_mul_right _ h
  | k :: t, u + 1, hu, h => by
    have ih := GL_set t u (by simpa using hu) (by simpa using h)
    show a * (gq k * GL (t.set u r)) ≤ 3 * (gq k * GL t)
    rw [Nat.mul_left_comm, Nat.mul_left_comm 3]; exact Nat.mul_le_mul_left _ ih
theorem GL_zero : ∀ n, GL (List.replicate n 0) = 1
  | 0 => rfl
  | n + 1 => by rw [List.replicate_succ]; show 1 * GL (List.replicate n 0) = 1; rw [GL_zero n]
theorem putl_len {l : List Int} {i : Nat} (hi : i < max l.length 1) (v : Int) : (putl l i v).length = l.length + 1 := by
  unfold putl
  split
  · rename_i h; subst h; rfl
  · rename_i h
    have := List.length_pos_iff.2 h
    rw [List.length_append, List.length_cons, List.length_take, List.length_drop]; omega
theorem Tok.len1 {t : List (List Int)} (h : Tok t) {x : Int} (hx : 0 ≤ x ∧ x < t.length) : (rho t x).length + 1 ≤ t.length := by
  have := sub_len (l := x :: rho t x) (m := (List.range t.length).map fun k : Nat => (k : Int)) (List.nodup_cons.2 ⟨h.rs.irr x, h.rs.nd x⟩) fun y hy => by
    have : 0 ≤ y ∧ y < t.length := by
      rcases List.mem_cons.1 hy with rfl | hy
      · exact hx
      · exact h.rng x y hy
    exact List.mem_map.2 ⟨y.toNat, List.mem_range.2 (by omega), by omega⟩
  simpa using this
def lens (t : List (List Int)) : List Nat := t.map List.length
theorem lens_put {t : List (List Int)} {u v : Nat} (hu : u < t.length) (hv : v < t.length) {i k : Nat} (hi : i < max t[u].length 1) (hk : k < max t[v].length 1) :
    lens (putW t (u : Int) (v : Int) i k) = ((lens t).set u (t[u].length + 1)).set v (t[v].length + 1) := by
  unfold lens putW
  rw [Int.toNat_natCast, Int.toNat_natCast, List.map_set, List.map_set, rho_nat hu, rho_nat hv, putl_len hi, putl_len hk]
theorem fold_le {A : Type} (f : Nat × A → Nat → Nat × A) (c : Nat) : ∀ (l : List Nat) (w : Nat × A), (∀ w i, i ∈ l → (f w i).1 ≤ w.1 + c) → (l.foldl f w).1 ≤ w.1 + l.length * c
  | [], w, _ => by simp
  | i :: l, w, h => by
    have h1 := fold_le f c l (f w i) fun w j hj => h w j (by simp [hj])
    have h2 := h w i (by simp)
    rw [List.foldl_cons, List.length_cons, Nat.succ_mul]; omega
theorem S22_le : ∀ (es : List (Int × Int)) (t : List (List Int)) (w : Nat × List (List Int)), Rdy t es → (S22 es t w).1 ≤ w.1 + 9 ^ es.length * GL (lens t)
  | [], t, w, h => by
    have := GL_pos (lens t)
    rw [S22]; split
    · simp; omega
    · simp
  | (u', v') :: es, t, w, h => by
    obtain ⟨⟨hu0, hu⟩, hv0, hv⟩ := h.rng (u', v') (by simp)
    obtain ⟨u, rfl⟩ := Int.eq_ofNat_of_zero_le hu0
    obtain ⟨v, rfl⟩ := Int.eq_ofNat_of_zero_le hv0
    have hu : u < t.length := by simpa using hu
    have hv : v < t.length := by simpa using hv
    have hne := h.new.1
    have h8 := h.tok.n8
    have hgu : rho t (u : Int) = t[u] := rho_nat hu
    have hgv : rho t (v : Int) = t[v] := rho_nat hv
    rw [S22]; split
    · rw [hgu, hgv]
      generalize hX : 9 ^ es.length * GL (((lens t).set u (t[u].length + 1)).set v (t[v].length + 1)) = X
      have hin : ∀ i, i < max t[u].length 1 → ∀ k, k < max t[v].length 1 → ∀ w, (S22 es (putW t (u : Int) (v : Int) i k) w).1 ≤ w.1 + X := fun i hi k hk w => by
        have := S22_le es (putW t (u : Int) (v : Int) i k) w (h.step (by rw [hgu]; exact hi) (by rw [hgv]; exact hk))
        rwa [lens_put hu hv hi hk, hX] at this
      have hall : ((List.range (max t[u].length 1)).foldl (fun w i => (List.range (max t[v].length 1)).foldl (fun w k => S22 es (putW t (u : Int) (v : Int) i k) w) w) w).1 ≤ w.1 + max t[u].length 1 * (max t[v].length 1 * X) := by
        have := fold_le (fun w i => (List.range (max t[v].length 1)).foldl (fun w k => S22 es (putW t (u : Int) (v : Int) i k) w) w) (max t[v].length 1 * X) (List.range (max t[u].length 1)) w fun w i hi => by
          have := fold_le (fun w k => S22 es (putW t (u : Int) (v : Int) i k) w) X (List.range (max t[v].length 1)) w fun w k hk => hin i (List.mem_range.1 hi) k (List.mem_range.1 hk) w
          rwa [List.length_range] at this
        rwa [List.length_range] at this
      refine Nat.le_trans hall (Nat.add_le_add_left ?_ _)
      have hst := h.step (i := 0) (k := 0) (by omega) (by omega)
      have l1 := hst.tok.len1 (x := (u : Int)) (by rw [putW_len]; omega)
      have l2 := hst.tok.len1 (x := (v : Int)) (by rw [putW_len]; omega)
      rw [putW_len, rho_put ⟨by omega, by omega⟩ ⟨by omega, by omega⟩] at l1 l2
      rw [putE_at_u hne, hgu, putl_len (by omega)] at l1
      rw [putE_at_v, hgv, putl_len (by omega)] at l2
      have hne' : v ≠ u := fun e => hne (by rw [e])
      have g1 := GL_set (a := max t[u].length 1) (r := t[u].length + 1) (lens t) u (by unfold lens; rw [List.length_map]; exact hu) (by unfold lens; rw [List.getElem_map]; exact gq_step (by omega))
      have g2 := GL_set (a := max t[v].length 1) (r := t[v].length + 1) ((lens t).set u (t[u].length + 1)) v (by unfold lens; rw [List.length_set, List.length_map]; exact hv) (by
        rw [List.getElem_set_ne (fun e => hne' e.symm)]; unfold lens; rw [List.getElem_map]; exact gq_step (by omega))
      generalize max t[u].length 1 = a at *
      generalize max t[v].length 1 = b at *
      generalize GL (((lens t).set u (t[u].length + 1)).set v (t[v].length + 1)) = G2 at *
      generalize GL ((lens t).set u (t[u].length + 1)) = G1 at *
      generalize GL (lens t) = G0 at *
      rw [← hX, List.length_cons, Nat.pow_succ]
      generalize 9 ^ es.length = p
      calc a * (b * (p * G2)) = p * (a * (b * G2)) := by rw [Nat.mul_left_comm b p, Nat.mul_left_comm a p]
        _ ≤ p * (a * (3 * G1)) := Nat.mul_le_mul_left _ (Nat.mul_le_mul_left _ g2)
        _ = p * (3 * (a * G1)) := by rw [Nat.mul_left_comm a 3]
        _ ≤ p * (3 * (3 * G0)) := Nat.mul_le_mul_left _ (Nat.mul_le_mul_left _ g1)
        _ = p * 9 * G0 := by rw [← Nat.mul_assoc 3 3, Nat.mul_assoc p]
    · omega
theorem fold_lt {A : Type} (f : Nat × A → Nat → Nat × A) (P : Nat → Prop) : ∀ (l : List Nat) (w : Nat × A), (∀ w i, w.1 ≤ (f w i).1) → (∀ w i, i ∈ l → (w.1 < (f w i).1 ↔ P i)) → (w.1 < (l.foldl f w).1 ↔ ∃ i ∈ l, P i)
  | [], w, _, _ => by simp
  | i :: l, w, h, hP => by
    have h1 := fold_lt f P l (f w i) h fun w j hj => hP w j (by simp [hj])
    have h2 := hP w i (by simp)
    have h3 := h w i
    have h4 := foldl_ge f h l (f w i)
    rw [List.foldl_cons]
    constructor
    · intro hlt
      by_cases g : w.1 < (f w i).1
      · exact ⟨i, by simp, h2.1 g⟩
      · obtain ⟨j, hj, hp⟩ := h1.1 (by omega)
        exact ⟨j, by simp [hj], hp⟩
    · rintro ⟨j, hj, hp⟩
      rcases List.mem_cons.1 hj with rfl | hj
      · have := h2.2 hp; omega
      · have := h1.2 ⟨j, hj, hp⟩; omega
theorem S22_fnd : ∀ (es : List (Int × Int)) (t : List (List Int)) (w : Nat × List (List Int)), Rdy t es → (w.1 < (S22 es t w).1 ↔ Fnd (fun ρ => Tw ρ 0) (fun _ _ _ _ _ => True) es (rho t))
  | [], t, w, h => by
    rw [S22]; split
    · rename_i g; exact ⟨fun _ => g, fun _ => by simp⟩
    · rename_i g; exact ⟨fun h => by omega, fun h => absurd h g⟩
  | (u', v') :: es, t, w, h => by
    obtain ⟨hu, hv⟩ := h.rng (u', v') (by simp)
    rw [S22]; split
    · rename_i g
      have := fold_lt (fun w i => (List.range (max (rho t v').length 1)).foldl (fun w k => S22 es (putW t u' v' i k) w) w) (fun i => ∃ k ∈ List.range (max (rho t v').length 1), Fnd (fun ρ => Tw ρ 0) (fun _ _ _ _ _ => True) es (putE (rho t) u' v' i k)) (List.range (max (rho t u').length 1)) w
        (fun w i => foldl_ge _ (fun w k => S22_ge es _ w) _ _) (fun w i hi => fold_lt _ _ _ w (fun w k => S22_ge es _ w) fun w k hk => by
          rw [S22_fnd es _ w (h.step (List.mem_range.1 hi) (List.mem_range.1 hk)), rho_put hu hv])
      rw [this]
      constructor
      · rintro ⟨i, hi, k, hk, hf⟩
        exact ⟨g, i, k, List.mem_range.1 hi, List.mem_range.1 hk, trivial, hf⟩
      · rintro ⟨_, i, k, hi, hk, _, hf⟩
        exact ⟨i, List.mem_range.2 hi, k, List.mem_range.2 hk, hf⟩
    · rename_i g
      exact ⟨fun h => by omega, fun h => absurd h.1 g⟩
end Go.Proofs.YtmaaloijdjnblaaGreatDoor

/- The program's search, as a plain function; when it finds one. -/
namespace Go.Proofs.YtmaaloijdjnblaaGreatDoor
noncomputable def eachV (t : List (List Int)) (s : EmA) : EmA := (F_emb_each t s).getD s
open Classical in
noncomputable def G22 : List (Int × Int) → List (List Int) → EmA → EmA
  | [], t, s => eachV t s
  | (u, v) :: es, t, s => (List.range (max (rho t u).length 1)).foldl (fun s i => (List.range (max (rho t v).length 1)).foldl (fun s k => if Fce (rho t) u v (rho t u)[i]? (rho t v)[k]? then G22 es (putW t u v i k) s else s) s) s
theorem Tok.small {t : List (List Int)} (h : Tok t) : t.length ≤ 8 ∧ ∀ x ∈ t, x.length ≤ 8 := ⟨h.n8, fun x hx => by
  obtain ⟨k, hk, rfl⟩ := List.getElem_of_mem hx
  exact row_nat h hk⟩
theorem eachV_eq {t : List (List Int)} (h : Tok t) (s : EmA) : F_emb_each t s = some (eachV t s) ∧ (eachV t s).1 = true := by
  obtain ⟨r, h1, h2⟩ := each_ex h.small.1 h.small.2 s
  unfold eachV
  rw [h1]; exact ⟨rfl, h2⟩
theorem pput2_eq {t : List (List Int)} {es : List (Int × Int)} {u v : Nat} (h : Rdy t (((u : Int), (v : Int)) :: es)) {i k : Nat} (hi : i < max (rho t (u : Int)).length 1) (hk : k < max (rho t (v : Int)).length 1) {β : Type} (K : List (List Int) → Option β) :
    cal (F_impl_embedding_put t (u : Int) (v : Int) (i : Int)) (fun x => cal (F_impl_embedding_put x (v : Int) (u : Int) (k : Int)) K) = K (putW t (u : Int) (v : Int) i k) := by
  obtain ⟨⟨_, hu⟩, _, hv⟩ := h.rng ((u : Int), (v : Int)) (by simp)
  have hu : u < t.length := by simpa using hu
  have hv : v < t.length := by simpa using hv
  have hne := h.new.1
  have hne' : u ≠ v := fun e => hne (by rw [e])
  rw [rho_nat hu] at hi
  rw [rho_nat hv] at hk
  have hg : (t.set u (putl t[u] i (v : Int)))[v]'(by rw [List.length_set]; exact hv) = t[v] := List.getElem_set_ne hne' _
  rw [cal_of (pput_eq hu (row_nat h.tok hu) hi (v : Int)), cal_of (pput_eq (t := t.set u (putl t[u] i (v : Int))) (u := v) (by rw [List.length_set]; exact hv) (by rw [hg]; exact row_nat h.tok hv) (by rw [hg]; exact hk) (u : Int))]
  unfold putW
  rw [hg, Int.toNat_natCast, Int.toNat_natCast, rho_nat hu, rho_nat hv]
open Classical in
theorem pinner_eq {t : List (List Int)} {es : List (Int × Int)} {u v : Nat} (h : Rdy t (((u : Int), (v : Int)) :: es)) {T : Tf (Int × Int)} {fs : List (List (Int × Int))} (hd : Dec (fst (rho t)) (Dt (rho t)) fs) (hT : TI T fs []) {n : Nat} (hn : n ≤ 1000)
    {i : Nat} (hi : i < max (rho t (u : Int)).length 1) (rc : List (List Int) → Int → EmA → Option EmA) (s : EmA) (hrc : ∀ t' s, Rdy t' es → rc t' ((n : Int) + 1) s = some (G22 es t' s)) :
    lp (fun q => F_emb_l2 T (rho t (u : Int)) (rho t (v : Int)) (u : Int) (v : Int) t (n : Int) rc (i : Int) q.1 q.2) (s, 0) =
      some (.inl ((List.range (max (rho t (v : Int)).length 1)).foldl (fun s k => if Fce (rho t) (u : Int) (v : Int) (rho t (u : Int))[i]? (rho t (v : Int))[k]? then G22 es (putW t (u : Int) (v : Int) i k) s else s) s)) := by
  have hlen := h.tok.len (v : Int)
  have h8 := h.tok.n8
  let f : EmA → Nat → EmA := fun s k => if Fce (rho t) (u : Int) (v : Int) (rho t (u : Int))[i]? (rho t (v : Int))[k]? then G22 es (putW t (u : Int) (v : Int) i k) s else s
  let g : Nat → EmA := fun k => (List.range k).foldl f s
  have hg1 : ∀ k, g (k + 1) = f (g k) k := fun k => by show (List.range (k + 1)).foldl _ _ = _; rw [List.range_succ, List.foldl_append]; rfl
  refine lp_upto (fun k => (g k, (k : Int))) (max (rho t (v : Int)).length 1) rfl (fun k hk => ?_) ?_
  · obtain ⟨c, hc, hcf⟩ := corner_eq h.tok hd hT hi hk
    simp only [F_emb_l2]
    rw [if_pos (by omega), cal_of hc, hg1]
    cases c with
    | true =>
      have hno : ¬ Fce (rho t) (u : Int) (v : Int) (rho t (u : Int))[i]? (rho t (v : Int))[k]? := fun g => by have := hcf.2 g; cases this
      rw [if_pos rfl, ck_of (inI (by omega) (by omega))]
      show _ = some (Sum.inl (f (g k) k, _))
      have : f (g k) k = g k := if_neg hno
      rw [this]; rfl
    | false =>
      have hyes := hcf.1 rfl
      rw [if_neg (by simp), pput2_eq h hi hk, ck_of (inI (by omega) (by omega)), cal_of (hrc _ _ (h.step hi hk)), ck_of (inI (by omega) (by omega))]
      have : f (g k) k = G22 es (putW t (u : Int) (v : Int) i k) (g k) := if_pos hyes
      rw [this]; rfl
  · simp only [F_emb_l2]
    rw [if_neg (by omega)]
open Classical in
theorem pouter_eq {t : List (List Int)} {es : List (Int × Int)} {u v : Nat} (h : Rdy t (((u : Int), (v : Int)) :: es)) {T : Tf (Int × Int)} {fs : List (List (Int × Int))} (hd : Dec (fst (rho t)) (Dt (rho t)) fs) (hT : TI T fs []) {n : Nat} (hn : n ≤ 1000)
    (rc : List (List Int) → Int → EmA → Option EmA) (s : EmA) (hrc : ∀ t' s, Rdy t' es → rc t' ((n : Int) + 1) s = some (G22 es t' s)) :
    lp (fun q => F_emb_l1 T (rho t (u : Int)) (rho t (v : Int)) (u : Int) (v : Int) t (n : Int) rc q.1 q.2) (s, 0) = some (.inl (G22 (((u : Int), (v : Int)) :: es) t s)) := by
  have hlen := h.tok.len (u : Int)
  have h8 := h.tok.n8
  let f : EmA → Nat → EmA := fun s i => (List.range (max (rho t (v : Int)).length 1)).foldl (fun s k => if Fce (rho t) (u : Int) (v : Int) (rho t (u : Int))[i]? (rho t (v : Int))[k]? then G22 es (putW t (u : Int) (v : Int) i k) s else s) s
  let g : Nat → EmA := fun k => (List.range k).foldl f s
  have hg1 : ∀ k, g (k + 1) = f (g k) k := fun k => by show (List.range (k + 1)).foldl _ _ = _; rw [List.range_succ, List.foldl_append]; rfl
  have hG : G22 (((u : Int), (v : Int)) :: es) t s = g (max (rho t (u : Int)).length 1) := by rw [G22]
  rw [hG]
  refine lp_upto (fun k => (g k, (k : Int))) (max (rho t (u : Int)).length 1) rfl (fun k hk => ?_) ?_
  · simp only [F_emb_l1]
    rw [if_pos (by omega), bnd_l (pinner_eq h hd hT hn hk rc (g k) hrc)]
    unfold F_emb_k3
    rw [ck_of (inI (by omega) (by omega)), hg1]; rfl
  · simp only [F_emb_l1]
    rw [if_neg (by omega)]
theorem grow_eq {E : List (Int × Int)} (hE : E.length ≤ 1000) {es done : List (Int × Int)} (he : E = done ++ es) {t : List (List Int)} (h : Rdy t es) (s : EmA) : F_impl_embedding_grow E t (done.length : Int) s = some (G22 es t s) := by
  unfold F_impl_embedding_grow
  have := fixO_ind (F := F_impl_embedding_grow_B E) (J := (List (Int × Int) × List (Int × Int)) × List (List Int) × EmA) (fun j => (j.2.1, (j.1.1.length : Int), j.2.2)) (fun j => j.1.2.length) (fun j => G22 j.1.2 j.2.1 j.2.2)
    (fun j => E = j.1.1 ++ j.1.2 ∧ Rdy j.2.1 j.1.2) ?_ ((done, es), t, s) ⟨he, h⟩
  exact this
  clear h he
  rintro R ⟨⟨done, es⟩, t, s⟩ ⟨he, h⟩ ih
  dsimp only at he h ih ⊢
  have h8 := h.tok.n8
  unfold F_impl_embedding_grow_B F_impl_embedding_grow_body
  dsimp only
  have hlen : E.length = done.length + es.length := by rw [he, List.length_append]
  cases es with
  | nil =>
    rw [if_pos (by simp at hlen; omega)]
    exact (eachV_eq h.tok s).1
  | cons e es =>
    obtain ⟨u', v'⟩ := e
    obtain ⟨⟨hu0, hu⟩, hv0, hv⟩ := h.rng (u', v') (by simp)
    obtain ⟨u, rfl⟩ := Int.eq_ofNat_of_zero_le hu0
    obtain ⟨v, rfl⟩ := Int.eq_ofNat_of_zero_le hv0
    have hu : u < t.length := by simpa using hu
    have hv : v < t.length := by simpa using hv
    have hl : done.length < E.length := by rw [hlen]; simp
    have hget : E[done.length] = ((u : Int), (v : Int)) := by simp [he]
    obtain ⟨out, T, fs, f1, f2, f3⟩ := pfaces_ex h.tok
    simp only [List.length_cons] at hlen
    rw [if_neg (by omega), idx_nat hl, idx_nat hl, hget, cal_of f1, idx_nat hu, idx_nat hv, ← rho_nat hu, ← rho_nat hv]
    have ho := pouter_eq h f2 f3 (n := done.length) (by omega) (fun z0 z1 z2 => R (z0, z1, z2)) s (fun t' s' hr => by
      have := ih ((done ++ [((u : Int), (v : Int))], es), t', s') ⟨by rw [he]; simp, hr⟩ (by simp)
      have e1 : (((done ++ [((u : Int), (v : Int))]).length : Nat) : Int) = (done.length : Int) + 1 := by simp
      dsimp only at this
      rwa [e1] at this)
    exact (bnd_l ho).trans rfl
theorem fold_or {A : Type} (f : Bool × A → Nat → Bool × A) (P : Nat → Prop) : ∀ (l : List Nat) (s : Bool × A), (∀ s i, i ∈ l → ((f s i).1 = true ↔ s.1 = true ∨ P i)) → ((l.foldl f s).1 = true ↔ s.1 = true ∨ ∃ i ∈ l, P i)
  | [], s, _ => by simp
  | i :: l, s, h => by
    rw [List.foldl_cons, fold_or f P l (f s i) fun s j hj => h s j (by simp [hj]), h s i (by simp)]
    constructor
    · rintro ((g | g) | ⟨j, hj, g⟩)
      · exact .inl g
      · exact .inr ⟨i, by simp, g⟩
      · exact .inr ⟨j, by simp [hj], g⟩
    · rintro (g | ⟨j, hj, g⟩)
      · exact .inl (.inl g)
      · rcases List.mem_cons.1 hj with rfl | hj
        · exact .inl (.inr g)
        · exact .inr ⟨j, hj, g⟩
open Classical in
theorem G22_found : ∀ (es : List (Int × Int)) (t : List (List Int)) (s : EmA), Rdy t es → ((G22 es t s).1 = true ↔ s.1 = true ∨ Fnd (fun _ => True) Fce es (rho t))
  | [], t, s, h => by
    rw [G22]
    exact ⟨fun _ => .inr trivial, fun _ => (eachV_eq h.tok s).2⟩
  | (u', v') :: es, t, s, h => by
    obtain ⟨hu, hv⟩ := h.rng (u', v') (by simp)
    have := fold_or (fun s i => (List.range (max (rho t v').length 1)).foldl (fun s k => if Fce (rho t) u' v' (rho t u')[i]? (rho t v')[k]? then G22 es (putW t u' v' i k) s else s) s)
      (fun i => ∃ k ∈ List.range (max (rho t v').length 1), Fce (rho t) u' v' (rho t u')[i]? (rho t v')[k]? ∧ Fnd (fun _ => True) Fce es (putE (rho t) u' v' i k)) (List.range (max (rho t u').length 1)) s
      (fun s i hi => fold_or _ _ _ s fun s k hk => by
        by_cases g : Fce (rho t) u' v' (rho t u')[i]? (rho t v')[k]?
        · rw [if_pos g, G22_found es _ s (h.step (List.mem_range.1 hi) (List.mem_range.1 hk)), rho_put hu hv]
          exact ⟨fun q => q.imp id fun q => ⟨g, q⟩, fun q => q.imp id fun q => q.2⟩
        · rw [if_neg g]; exact ⟨.inl, fun q => by rcases q with q | q; exact q; exact absurd q.1 g⟩)
    rw [G22, this]
    refine ⟨fun q => q.imp id ?_, fun q => q.imp id ?_⟩
    · rintro ⟨i, hi, k, hk, hc, hf⟩
      exact ⟨trivial, i, k, List.mem_range.1 hi, List.mem_range.1 hk, hc, hf⟩
    · rintro ⟨_, i, k, hi, hk, hc, hf⟩
      exact ⟨i, List.mem_range.2 hi, k, List.mem_range.2 hk, hc, hf⟩
end Go.Proofs.YtmaaloijdjnblaaGreatDoor

/- Edges told vertex by vertex, each vertex with its edges to those seen before. Program-free. -/
namespace Go.Proofs.YtmaaloijdjnblaaGreatDoor
structure GI (adj : Int → Int → Prop) (M : Int → Prop) (es : List (Int × Int)) : Prop where
  el : ∀ a b, El es a b ↔ M a ∧ M b ∧ adj a b
  ue : UE es
  gr : Grown es
  cn : ∀ a b, M a → M b → Rc adj a b → Rc (El es) a b
section
variable {adj : Int → Int → Prop} {M : Int → Prop} {es : List (Int × Int)}
theorem GI.nil (adj : Int → Int → Prop) : GI adj (fun _ => False) [] where
  el a b := by simp [El]
  ue := ⟨by simp, by simp⟩
  gr done u v rest e := by simp at e
  cn a b h := h.elim
theorem GI.step (hs : ∀ a b, adj a b → adj b a) (hi : ∀ a, ¬ adj a a) (h : GI adj M es) {v : Int} (hv : ¬ M v) {xs : List Int} (hxs : ∀ x, x ∈ xs ↔ M x ∧ adj v x) (hnd : xs.Nodup) (h0 : xs = [] → ∀ a b, M a → ¬ M b → ¬ adj a b) :
    GI adj (fun x => M x ∨ x = v) (es ++ xs.map fun x => (x, v)) := by
  have hel : ∀ a b, El (es ++ xs.map fun x => (x, v)) a b ↔ El es a b ∨ (a ∈ xs ∧ b = v) ∨ (b ∈ xs ∧ a = v) := fun a b => by
    unfold El
    simp only [List.mem_append, List.mem_map, Prod.mk.injEq]
    constructor
    · rintro ((h | ⟨x, hx, rfl, rfl⟩) | (h | ⟨x, hx, rfl, rfl⟩))
      · exact .inl (.inl h)
      · exact .inr (.inl ⟨hx, rfl⟩)
      · exact .inl (.inr h)
      · exact .inr (.inr ⟨hx, rfl⟩)
    · rintro ((h | h) | ⟨h, rfl⟩ | ⟨h, rfl⟩)
      · exact .inl (.inl h)
      · exact .inr (.inl h)
      · exact .inl (.inr ⟨a, h, rfl, rfl⟩)
      · exact .inr (.inr ⟨b, h, rfl, rfl⟩)
  have hnv : ∀ y, ¬ El es v y := fun y g => hv ((h.el v y).1 g).1
  have hin : ∀ x ∈ xs, x ≠ v := fun x hx e => hv (e ▸ ((hxs x).1 hx).1)
  -- any two of the vertices that the new one is joined with are connected already
  have hxx : ∀ x ∈ xs, ∀ y ∈ xs, Rc (El es) x y := fun x hx y hy => by
    have h1 := (hxs x).1 hx; have h2 := (hxs y).1 hy
    exact h.cn x y h1.1 h2.1 ((Rc.one (hs _ _ h1.2)).trans (Rc.one h2.2))
  refine ⟨fun a b => ?_, ⟨fun e he => ?_, ?_⟩, ?_, ?_⟩
  · rw [hel, h.el]
    constructor
    · rintro (⟨g1, g2, g3⟩ | ⟨g, rfl⟩ | ⟨g, rfl⟩)
      · exact ⟨.inl g1, .inl g2, g3⟩
      · exact ⟨.inl ((hxs a).1 g).1, .inr rfl, hs _ _ ((hxs a).1 g).2⟩
      · exact ⟨.inr rfl, .inl ((hxs b).1 g).1, ((hxs b).1 g).2⟩
    · rintro ⟨g1 | rfl, g2 | rfl, g3⟩
      · exact .inl ⟨g1, g2, g3⟩
      · exact .inr (.inl ⟨(hxs a).2 ⟨g1, hs _ _ g3⟩, rfl⟩)
      · exact .inr (.inr ⟨(hxs b).2 ⟨g2, g3⟩, rfl⟩)
      · exact absurd g3 (hi _)
  · rcases List.mem_append.1 he with g | g
    · exact h.ue.ne e g
    · obtain ⟨x, hx, rfl⟩ := List.mem_map.1 g
      exact hin x hx
  · rw [List.pairwise_append]
    refine ⟨h.ue.once, List.pairwise_map.2 (List.Pairwise.imp_of_mem (fun {a b} ha hb hne => ⟨fun e => hne (congrArg Prod.fst e), fun e => hin b hb (congrArg Prod.fst e).symm⟩) hnd), fun e he f hf => ?_⟩
    obtain ⟨x, hx, rfl⟩ := List.mem_map.1 hf
    refine ⟨fun q => ?_, fun q => ?_⟩
    · subst q; exact hnv x (.inr he)
    · have h1 : e.2 = x := congrArg Prod.fst q
      have h2 : e.1 = v := congrArg Prod.snd q
      exact hnv x (.inl (by rw [← h1, ← h2]; exact he))
  · intro done u w rest e hu hw
    rcases List.append_eq_append_iff.1 e with ⟨as, rfl, e2⟩ | ⟨cs, e1, e2⟩
    · -- among the new ones
      obtain ⟨ys, zs, hyz, h1, h2⟩ := List.map_eq_append_iff.1 e2
      obtain ⟨x, zs', rfl, hx, hz⟩ := List.map_eq_cons_iff.1 h2
      obtain ⟨rfl, rfl⟩ : x = u ∧ v = w := by simpa using hx
      have hxin : x ∈ xs := by rw [hyz]; simp
      cases ys with
      | nil =>
        simp only [List.map_nil] at h1
        subst h1
        rw [List.append_nil] at hw
        obtain ⟨y, hy⟩ := hw
        exact absurd hy (hnv y)
      | cons y ys =>
        have hyin : y ∈ xs := by rw [hyz]; simp
        have hmem : (y, v) ∈ es ++ as := by rw [← h1]; simp
        refine Rc.trans ((hxx x hxin y hyin).mono fun a b g => ?_) (Rc.one (.inl hmem))
        rcases g with g | g
        · exact .inl (List.mem_append_left _ g)
        · exact .inr (List.mem_append_left _ g)
    · cases cs with
      | nil =>
        rw [List.append_nil] at e1
        subst e1
        obtain ⟨x, zs', hxz, hx, hz⟩ := List.map_eq_cons_iff.1 e2.symm
        obtain ⟨rfl, rfl⟩ : x = u ∧ v = w := by simpa using hx
        obtain ⟨y, hy⟩ := hw
        exact absurd hy (hnv y)
      | cons c cs =>
        rw [List.cons_append, List.cons.injEq] at e2
        obtain ⟨rfl, _⟩ := e2
        exact h.gr done u w cs e1 hu hw
  · have hmono : ∀ a b, El es a b → El (es ++ xs.map fun x => (x, v)) a b := fun a b g => (hel a b).2 (.inl g)
    -- from v to a vertex seen
    have hvb : ∀ b, M b → Rc adj v b → Rc (El (es ++ xs.map fun x => (x, v))) v b := fun b hb g => by
      cases xs with
      | nil =>
        exfalso
        have : ¬ M b := g (fun x => ¬ M x) (fun p q hp hpq hq => h0 rfl q p hq hp (hs _ _ hpq)) hv
        exact this hb
      | cons x xs =>
        have hx := (hxs x).1 (by simp)
        have h1 : Rc (El (es ++ (x :: xs).map fun x => (x, v))) v x := Rc.one ((hel v x).2 (.inr (.inr ⟨by simp, rfl⟩)))
        exact h1.trans ((h.cn x b hx.1 hb ((Rc.one (hs _ _ hx.2)).trans g)).mono hmono)
    rintro a b (ha | rfl) (hb | rfl) g
    · exact (h.cn a b ha hb g).mono hmono
    · exact (hvb a ha (g.symm hs)).symm fun p q => El.symm
    · exact hvb b hb g
    · exact Rc.refl _
theorem GI.congr {M' : Int → Prop} (h : GI adj M es) (e : ∀ x, M x ↔ M' x) : GI adj M' es := by
  have : M = M' := funext fun x => propext (e x)
  rw [← this]; exact h
end
theorem Sys.of {es es' : List (Int × Int)} (h : ∀ a b, El es a b ↔ El es' a b) {R : Int → List Int} (hR : Sys es R) : Sys es' R := ⟨hR.1, fun a b => (hR.2 a b).trans (h a b)⟩
end Go.Proofs.YtmaaloijdjnblaaGreatDoor

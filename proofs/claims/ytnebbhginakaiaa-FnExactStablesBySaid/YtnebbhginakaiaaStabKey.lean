/- Sets as keys: the rule of stable sets counts. -/
import Derived.Test.YtnebbhginakaiaaTreeI
import Derived.Test.YtnebbhginakaiaaBitF
namespace Go.Proofs.Ytnebbhginakaiaa
def mks (b : List Int) (f : Nat → Nat) : Nat := mk (b.filter fun v => decide (f v.toNat = 1))
def keyU (b : List Int) (f : Nat → Nat) : BitVec 32 := BitVec.ofNat 32 (mks b f)
theorem mks_bit (b : List Int) (f : Nat → Nat) (j : Nat) : (mks b f).testBit j = decide (∃ u ∈ b, f u.toNat = 1 ∧ u.toNat = j) := by
  unfold mks
  rw [mk_bit, decide_eq_decide]
  constructor
  · rintro ⟨u, hu, rfl⟩
    rw [List.mem_filter] at hu
    exact ⟨u, hu.1, by simpa using hu.2, rfl⟩
  · rintro ⟨u, hu, h1, rfl⟩
    exact ⟨u, List.mem_filter.2 ⟨hu, by simpa using h1⟩, rfl⟩
theorem mks_iff (b : List Int) (f : Nat → Nat) (j : Nat) : (mks b f).testBit j = true ↔ ∃ u ∈ b, f u.toNat = 1 ∧ u.toNat = j := by rw [mks_bit, decide_eq_true_iff]
theorem mks_lt {b : List Int} {n : Nat} (hb : Rises b n) (f : Nat → Nat) : mks b f < 2 ^ n := mk_lt fun v hv => by
  have := hb.mem (List.mem_filter.1 hv).1; omega
theorem mks_32 {b : List Int} {n : Nat} (hn : n ≤ 16) (hb : Rises b n) (f : Nat → Nat) : mks b f < 2 ^ 32 := Nat.lt_of_lt_of_le (mks_lt hb f) (Nat.pow_le_pow_right (by decide) (by omega))
theorem ofNat_inj32 {a b : Nat} (ha : a < 2 ^ 32) (hb : b < 2 ^ 32) : BitVec.ofNat 32 a = BitVec.ofNat 32 b ↔ a = b := by
  constructor
  · intro h
    have := congrArg BitVec.toNat h
    rwa [BitVec.toNat_ofNat, BitVec.toNat_ofNat, Nat.mod_eq_of_lt ha, Nat.mod_eq_of_lt hb] at this
  · intro h; rw [h]
theorem keyU_same {b : List Int} {n : Nat} (hn : n ≤ 16) (hb : Rises b n) {f f' : Nat → Nat} (hf : valid 2 b f) (hf' : valid 2 b f') : keyU b f = keyU b f' ↔ ∀ v ∈ b, f v.toNat = f' v.toNat := by
  unfold keyU
  rw [ofNat_inj32 (mks_32 hn hb f) (mks_32 hn hb f')]
  have one : ∀ (f : Nat → Nat) (v : Int), v ∈ b → ((mks b f).testBit v.toNat = true ↔ f v.toNat = 1) := fun f v hv => by
    rw [mks_bit, decide_eq_true_iff]
    exact ⟨fun ⟨u, hu, h1, h2⟩ => by rw [← h2]; exact h1, fun h => ⟨v, hv, h, rfl⟩⟩
  constructor
  · intro h v hv
    have h1 := one f v hv
    have h2 := one f' v hv
    rw [h] at h1
    have := hf v hv; have := hf' v hv
    by_cases c : f' v.toNat = 1
    · rw [c, h1.1 (h2.2 c)]
    · have : ¬ f v.toNat = 1 := fun e => c (h2.1 (h1.2 e))
      omega
  · intro h
    refine bits_ext fun j => ?_
    rw [mks_bit, mks_bit, decide_eq_decide]
    exact ⟨fun ⟨u, hu, h1, h2⟩ => ⟨u, hu, by rw [← h u hu]; exact h1, h2⟩, fun ⟨u, hu, h1, h2⟩ => ⟨u, hu, by rw [h u hu]; exact h1, h2⟩⟩
theorem mks_more {b1 b2 : List Int} {v : Int} {f : Nat → Nat} (hn : ∀ u ∈ b1 ++ b2, u.toNat ≠ v.toNat) (c : Nat) : mks (b1 ++ v :: b2) (upd1 f v.toNat c) = if c = 1 then mks (b1 ++ b2) f ||| 2 ^ v.toNat else mks (b1 ++ b2) f := by
  have hmem : ∀ {u : Int}, u ∈ b1 ++ v :: b2 ↔ u = v ∨ u ∈ b1 ++ b2 := fun {u} => by
    simp only [List.mem_append, List.mem_cons]
    exact ⟨fun h => by rcases h with h | h | h; exact .inr (.inl h); exact .inl h; exact .inr (.inr h), fun h => by rcases h with h | h | h; exact .inr (.inl h); exact .inl h; exact .inr (.inr h)⟩
  refine bits_ext fun j => ?_
  have hv : upd1 f v.toNat c v.toNat = c := by unfold upd1; rw [if_pos rfl]
  have hex : (∃ u ∈ b1 ++ v :: b2, upd1 f v.toNat c u.toNat = 1 ∧ u.toNat = j) ↔ (c = 1 ∧ v.toNat = j) ∨ ∃ u ∈ b1 ++ b2, f u.toNat = 1 ∧ u.toNat = j := by
    constructor
    · rintro ⟨u, hu, h1, h2⟩
      rcases hmem.1 hu with rfl | hu
      · exact .inl ⟨by rw [← hv]; exact h1, h2⟩
      · rw [upd_self hn f c u hu] at h1; exact .inr ⟨u, hu, h1, h2⟩
    · rintro (⟨h1, h2⟩ | ⟨u, hu, h1, h2⟩)
      · exact ⟨v, hmem.2 (.inl rfl), by rw [hv]; exact h1, h2⟩
      · exact ⟨u, hmem.2 (.inr hu), by rw [upd_self hn f c u hu]; exact h1, h2⟩
  by_cases hc : c = 1
  · rw [if_pos hc, Bool.eq_iff_iff, mks_iff, hex, Nat.testBit_or, Bool.or_eq_true, mks_iff, Nat.testBit_two_pow, decide_eq_true_iff]
    exact ⟨fun h => h.elim (fun h => .inr h.2) .inl, fun h => h.elim .inr (fun h => .inl ⟨hc, h⟩)⟩
  · rw [if_neg hc, Bool.eq_iff_iff, mks_iff, hex, mks_iff]
    exact ⟨fun h => h.elim (fun h => absurd h.1 hc) id, .inr⟩
theorem mks_less {b1 b2 : List Int} {v : Int} {f : Nat → Nat} (hn : ∀ u ∈ b1 ++ b2, u.toNat ≠ v.toNat) : sdiff (mks (b1 ++ v :: b2) f) (2 ^ v.toNat) = mks (b1 ++ b2) f := by
  refine bits_ext fun j => ?_
  rw [Bool.eq_iff_iff, sdiff_bit, Bool.and_eq_true, mks_iff, mks_iff, Nat.testBit_two_pow]
  by_cases e : v.toNat = j
  · subst e
    have : ¬ ∃ u ∈ b1 ++ b2, f u.toNat = 1 ∧ u.toNat = v.toNat := fun ⟨u, hu, _, h2⟩ => hn u hu h2
    exact ⟨fun h => absurd h.2 (by simp), fun h => absurd h this⟩
  · have : (∃ u ∈ b1 ++ v :: b2, f u.toNat = 1 ∧ u.toNat = j) ↔ ∃ u ∈ b1 ++ b2, f u.toNat = 1 ∧ u.toNat = j := by
      constructor
      · rintro ⟨u, hu, h1, h2⟩
        refine ⟨u, ?_, h1, h2⟩
        simp only [List.mem_append, List.mem_cons] at hu ⊢
        rcases hu with h | h | h
        · exact .inl h
        · subst h; exact absurd h2 e
        · exact .inr h
      · rintro ⟨u, hu, h1, h2⟩
        refine ⟨u, ?_, h1, h2⟩
        simp only [List.mem_append, List.mem_cons] at hu ⊢
        rcases hu with h | h
        · exact .inl h
        · exact .inr (.inr h)
    rw [this]; exact ⟨fun h => h.1, fun h => ⟨h, by simp [e]⟩⟩
section
variable {g : List (List Int)}
theorem row_of (hg : GOk g) {v : Int} (h0 : 0 ≤ v) (h1 : v < g.length) : g.getD v.toNat [] = g[v.toNat]'(by omega) := by rw [List.getD_eq_getElem?_getD, List.getElem?_eq_getElem]; rfl
theorem nets_near (hg : GOk g) {b : List Int} {n : Nat} (hb : Rises b n) (hn : n ≤ 16) {f : Nat → Nat} {v : Int} (h0 : 0 ≤ v) (h1 : v < g.length) : (BitVec.ofNat 32 (mk (g.getD v.toNat [])) &&& keyU b f ≠ 0#32) ↔ ∃ u ∈ b, u ∈ g.getD v.toNat [] ∧ f u.toNat = 1 := by
  have hrow := hg.rows v.toNat (by omega)
  rw [row_of hg h0 h1]
  have hlt : mk (g[v.toNat]'(by omega)) &&& mks b f < 2 ^ 32 := Nat.lt_of_le_of_lt Nat.and_le_left (Nat.lt_of_lt_of_le hrow.1.lt (Nat.pow_le_pow_right (by decide) (by have := hg.n16; omega)))
  unfold keyU
  rw [← BitVec.ofNat_and, show (0#32 : BitVec 32) = BitVec.ofNat 32 0 from rfl, ne_eq, ofNat_inj32 hlt (by decide)]
  constructor
  · intro hne
    refine Classical.byContradiction fun hno => hne ?_
    refine bits_ext fun j => ?_
    rw [Nat.zero_testBit, Nat.testBit_and, mk_bit, mks_bit]
    by_cases c : ∃ u ∈ b, f u.toNat = 1 ∧ u.toNat = j
    · obtain ⟨u, hu, h2, rfl⟩ := c
      have : ¬ ∃ w ∈ g[v.toNat]'(by omega), w.toNat = u.toNat := fun ⟨w, hw, e⟩ => by
        have h5 := hrow.1.mem hw
        have h6 := hb.mem hu
        have e3 : w = u := by omega
        subst e3
        exact hno ⟨w, hu, hw, h2⟩
      rw [decide_eq_false this]; rfl
    · rw [decide_eq_false c]; simp
  · rintro ⟨u, hu, h2, h3⟩ e
    have := congrArg (fun m => Nat.testBit m u.toNat) e
    simp only [Nat.zero_testBit, Nat.testBit_and, mk_bit, mks_bit] at this
    rw [decide_eq_true ⟨u, h2, rfl⟩, decide_eq_true ⟨u, hu, h3, rfl⟩] at this
    cases this
theorem near_upd (hg : GOk g) {b1 b2 : List Int} {f : Nat → Nat} {v : Int} (h0 : 0 ≤ v) (h1 : v < g.length) (hn : ∀ u ∈ b1 ++ b2, u.toNat ≠ v.toNat) (c : Nat) : nearC g (b1 ++ v :: b2) (upd1 f v.toNat c) v c ↔ ∃ u ∈ b1 ++ b2, u ∈ g.getD v.toNat [] ∧ f u.toNat = c := by
  have hloop : v ∉ g.getD v.toNat [] := by
    rw [row_of hg h0 h1]
    have := (hg.rows v.toNat (by omega)).2
    rwa [show ((v.toNat : Nat) : Int) = v by omega] at this
  constructor
  · rintro ⟨u, hu, h2, h3⟩
    have hu' : u ∈ b1 ++ b2 := by
      simp only [List.mem_append, List.mem_cons] at hu ⊢
      rcases hu with h | h | h
      · exact .inl h
      · subst h; exact absurd h2 hloop
      · exact .inr h
    exact ⟨u, hu', h2, by rw [← upd_self hn f c u hu']; exact h3⟩
  · rintro ⟨u, hu, h2, h3⟩
    refine ⟨u, ?_, h2, by rw [upd_self hn f c u hu]; exact h3⟩
    simp only [List.mem_append, List.mem_cons] at hu ⊢
    exact hu.imp id .inr
theorem rises_nodup {n : Nat} (hn : n ≤ 16) {b : List Int} (hb : Rises b n) : b.Pairwise (fun u v => u.toNat ≠ v.toNat) :=
  List.Pairwise.imp_of_mem (fun {u v} hu hv huv => by have := hb.mem hu; have := hb.mem hv; omega) (hb.sorted hn)
open Classical in
theorem stab_lin (hg : GOk g) : Lin (BitVec 32) g 2 true F_impl_maskOf (stRu (bvs (nb g)) (fun _ => some 0) (fun x y => wr (x * y)) pSum) keyU where
  same {b f f'} hb hf hf' := keyU_same hg.n16 hb hf hf'
  msk {b} hb := ⟨_, maskOf_eq (fun v hv => by have := hb.mem hv; have := hg.n16; omega) (by have := hb.len16 hg.n16; omega)⟩
  add {b1 b2 v f mb} hr hrk hmb hf := by
    have h16 := hg.n16
    have hv := hr.mem (x := v) (by simp)
    have hnd := nodup_split (rises_nodup h16 hr)
    have hrow : (nb g)[v.toNat]'(by rw [nb_len]; omega) = mk (g.getD v.toNat []) := by rw [row_of hg hv.1 hv.2]; simp [nb]
    have hnear := nets_near hg hrk h16 (f := f) hv.1 hv.2
    show F_impl_stableRule_1 (keyU (b1 ++ b2) f) v mb (bvs (nb g)) = _
    unfold F_impl_stableRule_1
    have e0 : ((v.toNat : Nat) : Int) = v := by omega
    rw [show idx (bvs (nb g)) v = idx (bvs (nb g)) ((v.toNat : Nat) : Int) by rw [e0], idx_bvs (by rw [nb_len]; omega), hrow]
    have hk0 : keyU (b1 ++ v :: b2) (upd1 f v.toNat 0) = keyU (b1 ++ b2) f := by unfold keyU; rw [mks_more hnd 0, if_neg (by decide)]
    have hk1 : keyU (b1 ++ v :: b2) (upd1 f v.toNat 1) = keyU (b1 ++ b2) f ||| BitVec.ofNat 32 (2 ^ v.toNat) := by unfold keyU; rw [mks_more hnd 1, if_pos rfl, BitVec.ofNat_or]
    have hu1 := near_upd hg (f := f) hv.1 hv.2 hnd 1
    have hm : mayC g 2 true (b1 ++ v :: b2) v f = if ∃ u ∈ b1 ++ b2, u ∈ g.getD v.toNat [] ∧ f u.toNat = 1 then [0] else [0, 1] := by
      unfold mayC
      rw [show List.range 2 = [0, 1] from rfl, List.filter_cons_of_pos (by simp)]
      by_cases c : ∃ u ∈ b1 ++ b2, u ∈ g.getD v.toNat [] ∧ f u.toNat = 1
      · rw [if_pos c, List.filter_cons_of_neg (by rw [decide_eq_false (by rintro (h | h); exact absurd h.2 (by decide); exact h (hu1.2 c))]; simp)]; rfl
      · rw [if_neg c, List.filter_cons_of_pos (by rw [decide_eq_true (.inr fun h => c (hu1.1 h))])]; rfl
    rw [hm]
    by_cases c : ∃ u ∈ b1 ++ b2, u ∈ g.getD v.toNat [] ∧ f u.toNat = 1
    · rw [if_pos (hnear.2 c), if_pos c, List.map_cons, List.map_nil, hk0]
    · rw [if_neg (fun h => c (hnear.1 h)), if_neg c, show F_impl_one v = F_impl_one ((v.toNat : Nat) : Int) by rw [e0], cal_of (one_eq (by omega)), List.map_cons, List.map_cons, List.map_nil, hk0, hk1]
  drop {b1 b2 v f mb n} hr hrk hmb hf hn := by
    have h16 := hg.n16
    have hv := hr.mem (x := v) (by simp)
    have hnd := nodup_split (rises_nodup h16 hr)
    have e0 : ((v.toNat : Nat) : Int) = v := by omega
    show stDrop (fun _ => some 0) (keyU (b1 ++ v :: b2) f) v n = _
    unfold stDrop
    rw [show F_impl_vset_has (keyU (b1 ++ v :: b2) f) v = F_impl_vset_has (keyU (b1 ++ v :: b2) f) ((v.toNat : Nat) : Int) by rw [e0], keyU, cal_of (has_eq (mks_32 h16 hr f) (by omega))]
    have e1 : (if (mks (b1 ++ v :: b2) f).testBit v.toNat = true then cal (some (0 : Int)) (fun x => some (wr (n + x))) else some n) = some n := by
      split
      · show some (wr (n + 0)) = some n
        rw [Int.add_zero, wr_of hn]
      · rfl
    rw [cal_of e1, show F_impl_one v = F_impl_one ((v.toNat : Nat) : Int) by rw [e0], cal_of (one_eq (by omega)), bv_andn (mks_32 h16 hr f), mks_less hnd]; rfl
  meet s t := rfl
  both x y := rfl
  pick := rfl
end
end Go.Proofs.Ytnebbhginakaiaa

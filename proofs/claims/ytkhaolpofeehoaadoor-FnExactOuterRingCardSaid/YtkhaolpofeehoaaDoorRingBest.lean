/- The best ring: all rings looked through in their order, the first one with the fewest crossings kept, no more looked for when one has none. -/
import Derived.Test.YtkhaolpofeehoaaDoorRing
import Derived.Test.YtkhaolpofeehoaaDoorLines
namespace Go.Proofs.YtkhaolpofeehoaaDoor
noncomputable def leafR (E : List (List Int)) (o : List Int) (s : List Int × Int) : List Int × Int :=
  if s.2 = 0 then s else if s.2 < 0 ∨ (crossings o E : Int) < s.2 then (o, (crossings o E : Int)) else s
noncomputable def goR (E : List (List Int)) (n : Nat) : Nat → List Int → List Int × Int → List Int × Int
  | 0, o, s => leafR E o s
  | d + 1, o, s => (List.range n).foldl (fun s (v : Nat) => if (v : Int) ∈ o then s else goR E n d (o ++ [(v : Int)]) s) s
section
variable {E : List (List Int)} {n : Nat}
theorem foldl_same {A B : Type} (f : A → B → A) (a : A) (h : ∀ b, f a b = a) : ∀ l : List B, l.foldl f a = a
  | [] => rfl
  | b :: l => by rw [List.foldl_cons, h, foldl_same f a h l]
theorem goR_zero : ∀ (d : Nat) (o : List Int) (s : List Int × Int), s.2 = 0 → goR E n d o s = s
  | 0, o, s, h => by rw [goR, leafR, if_pos h]
  | d + 1, o, s, h => by
    rw [goR]
    refine foldl_same _ s (fun v => ?_) _
    by_cases hv : (v : Int) ∈ o
    · rw [if_pos hv]
    · rw [if_neg hv, goR_zero d _ s h]
theorem leafR_inI (hE : E.length ≤ 256) {o : List Int} {s : List Int × Int} (h : -1 ≤ s.2 ∧ s.2 ≤ 65536) : -1 ≤ (leafR E o s).2 ∧ (leafR E o s).2 ≤ 65536 := by
  have h1 := crossN_le o E E.length
  have h2 : E.length * E.length ≤ 256 * 256 := Nat.mul_le_mul hE hE
  unfold leafR crossings
  repeat' split
  all_goals (first | exact h | (simp only []; omega))
/-- a part of a ring -/
def PartR (n : Nat) (o : List Int) : Prop := (∀ x ∈ o, 0 ≤ x ∧ x < n) ∧ o.Nodup
theorem PartR.snoc {o : List Int} (h : PartR n o) {v : Nat} (hv : v < n) (hn : (v : Int) ∉ o) : PartR n (o ++ [(v : Int)]) := by
  refine ⟨fun x hx => ?_, List.nodup_append.2 ⟨h.2, by simp, fun a ha b hb e => ?_⟩⟩
  · rcases List.mem_append.1 hx with g | g
    · exact h.1 x g
    · rw [List.mem_singleton] at g; omega
  · rw [List.mem_singleton] at hb; subst hb; exact hn (e ▸ ha)
theorem leafR_nz {o : List Int} {s : List Int × Int} (h : s.2 ≠ 0) : leafR E o s = if s.2 < 0 ∨ (crossings o E : Int) < s.2 then (o, (crossings o E : Int)) else s := if_neg h
theorem l1Copy_eq6 {l : List Int} (h : l.length ≤ 1048576) : F_spec_l1Copy l = some l := by
  unfold F_spec_l1Copy
  rw [app_s (by simp; omega)]; rfl
theorem l24Rings_eq (hn : n ≤ 16) (hE : ∀ e ∈ E, Pair n e) (hl : E.length ≤ 256) (d : Nat) (o : List Int) (s : List Int × Int) (hd : o.length + d = n) (hp : PartR n o) : F_spec_l24Rings E o (n : Int) s.1 s.2 = some (goR E n d o s) := by
  refine fixO_ind (J := Nat × List Int × List Int × Int) (fun j => (E, j.2.1, (n : Int), j.2.2.1, j.2.2.2)) (fun j => j.1) (fun j => goR E n j.1 j.2.1 j.2.2) (fun j => j.2.1.length + j.1 = n ∧ PartR n j.2.1) ?_ (d, o, s) ⟨hd, hp⟩
  rintro R ⟨d, o, b, m⟩ ⟨hd, hp⟩ ih
  simp only at hd hp ⊢
  unfold F_spec_l24Rings_body
  by_cases h0 : m = 0
  · rw [if_pos h0, goR_zero d o (b, m) h0]
  rw [if_neg h0]
  cases d with
  | zero =>
    have hlen : o.length = n := by omega
    rw [if_pos (by omega), cal_of (l24Crossings_eq ⟨hlen, hp.1, hp.2⟩ hn hE hl), goR, leafR_nz (s := (b, m)) h0]
    by_cases h1 : m < 0
    · rw [if_pos h1, cal_of (l1Copy_eq6 (by omega)), if_pos (.inl h1)]
    · rw [if_neg h1]
      by_cases h2 : (crossings o E : Int) < m
      · rw [if_pos h2, cal_of (l1Copy_eq6 (by omega)), if_pos (.inr h2)]
      · rw [if_neg h2, if_neg (by omega)]
  | succ d =>
    rw [if_neg (by omega), goR]
    have key := lp_upto (step := fun q : List Int × Int × Int => F_spec_l24Rings_l1 E o (n : Int) (fun z0 z1 z2 z3 z4 => R (z0, z1, z2, z3, z4)) q.1 q.2.1 q.2.2)
      (fun k => (((List.range k).foldl (fun s (v : Nat) => if (v : Int) ∈ o then s else goR E n d (o ++ [(v : Int)]) s) (b, m)).1, ((List.range k).foldl (fun s (v : Nat) => if (v : Int) ∈ o then s else goR E n d (o ++ [(v : Int)]) s) (b, m)).2, (k : Int))) n
      (s := (b, m, 0)) rfl (fun k hk => ?_) (o := .inl ((List.range n).foldl (fun s (v : Nat) => if (v : Int) ∈ o then s else goR E n d (o ++ [(v : Int)]) s) (b, m))) ?_
    · rw [key]; rfl
    · simp only [F_spec_l24Rings_l1]
      rw [if_pos (by omega), cal_of (l1Has_eq _ _ (by omega)), List.range_succ, List.foldl_append, List.foldl_cons, List.foldl_nil]
      generalize (List.range k).foldl (fun s (v : Nat) => if (v : Int) ∈ o then s else goR E n d (o ++ [(v : Int)]) s) (b, m) = t
      by_cases hx : (k : Int) ∈ o
      · rw [if_neg (by simpa using hx), ck_of (inI (by omega) (by omega)), if_pos hx]; rfl
      · rw [if_pos (by simpa using hx), cal_of (l1Copy_eq6 (by omega)), app1_s (by omega), cal_of (ih (d, o ++ [(k : Int)], t) ⟨by simp; omega, hp.snoc hk hx⟩ (by simp only; omega)), ck_of (inI (by omega) (by omega)), if_neg hx]; rfl
    · simp only [F_spec_l24Rings_l1]
      rw [if_neg (by omega)]
theorem firstOf_eq {n : Nat} (hn : n ≤ 16) : F_impl_firstOf (n : Int) = some (BitVec.ofNat 32 (2 ^ n - 1)) := by
  have h1 : 2 ^ n ≤ 2 ^ 16 := pow16 hn
  have h2 : 0 < 2 ^ n := Nat.two_pow_pos _
  unfold F_impl_firstOf
  rw [grd_of (Int.natCast_nonneg _), Int.toNat_natCast, bv_shl (by omega), bv_sub_one h2 (by omega)]
/-- those that the part of a ring has not -/
def offR (n : Nat) (o : List Int) : List Nat := (List.range n).filter fun (v : Nat) => decide ((v : Int) ∉ o)
theorem offR_list (hn : n ≤ 16) {o : List Int} (hp : PartR n o) : F_impl_vset_list (BitVec.ofNat 32 (2 ^ n - 1) &&& ~~~ BitVec.ofNat 32 (mk o)) = some (ints (offR n o)) := by
  have hp16 : 2 ^ n ≤ 2 ^ 16 := pow16 hn
  have hlt : sdiff (2 ^ n - 1) (mk o) < 2 ^ n := sdiff_lt (by have := Nat.two_pow_pos n; omega)
  have hm : mk o < 2 ^ n := mk_lt hp.1
  rw [bv_andn (by omega), list_eq (by omega), els_range hn hlt]
  unfold offR
  congr 2
  refine List.filter_congr fun v hv => ?_
  rw [List.mem_range] at hv
  rw [sdiff_bit, Nat.testBit_two_pow_sub_one, mk_mem (fun x hx => (hp.1 x hx).1)]
  simp [hv]
theorem goR_off (d : Nat) (o : List Int) (s : List Int × Int) : goR E n (d + 1) o s = (offR n o).foldl (fun s (v : Nat) => goR E n d (o ++ [(v : Int)]) s) s := by
  rw [goR]; unfold offR
  generalize List.range n = l
  induction l generalizing s with
  | nil => rfl
  | cons v l ih =>
    rw [List.foldl_cons, List.filter_cons]
    by_cases hv : (v : Int) ∈ o
    · rw [if_pos hv, if_neg (by simpa using hv), ih]
    · rw [if_neg hv, if_pos (by simpa using hv), List.foldl_cons, ih]
theorem leastRing1_eq {o : List Int} (h : IsOrder n o) (h1 : 1 ≤ n) (hn : n ≤ 16) (hE : ∀ e ∈ E, Pair n e) (hl : E.length ≤ 256) {s : List Int × Int} (hs : s.2 ≠ 0) : F_impl_leastRing_1 E o s = some (decide ((leafR E o s).2 = 0), leafR E o s) := by
  unfold F_impl_leastRing_1
  have hlen := h.1
  rw [cal_of (crossingsOn_eq h h1 hn hE hl), leafR_nz hs]
  by_cases h1 : s.2 < 0
  · rw [if_pos h1, cal_of (clone64_eq _ (by omega)), if_pos (.inl h1)]
  · rw [if_neg h1]
    by_cases h2 : (crossings o E : Int) < s.2
    · rw [if_pos h2, cal_of (clone64_eq _ (by omega)), if_pos (.inr h2)]
    · rw [if_neg h2, if_neg (by omega)]
theorem rings_eq (h1 : 1 ≤ n) (hn : n ≤ 16) (hE : ∀ e ∈ E, Pair n e) (hl : E.length ≤ 256) (d : Nat) (o : List Int) (s : List Int × Int) (hd : o.length + d = n) (hp : PartR n o) (hs : s.2 ≠ 0) :
    F_impl_rings (F_impl_leastRing_1 E) (n : Int) o (BitVec.ofNat 32 (mk o)) s = some (decide ((goR E n d o s).2 = 0), goR E n d o s) := by
  refine fixO_ind (J := Nat × List Int × List Int × Int) (fun j => ((n : Int), j.2.1, BitVec.ofNat 32 (mk j.2.1), j.2.2)) (fun j => j.1) (fun j => (decide ((goR E n j.1 j.2.1 j.2.2).2 = 0), goR E n j.1 j.2.1 j.2.2)) (fun j => (j.2.1.length + j.1 = n ∧ PartR n j.2.1) ∧ j.2.2.2 ≠ 0) ?_ (d, o, s) ⟨⟨hd, hp⟩, hs⟩
  rintro R ⟨d, o, s⟩ ⟨⟨hd, hp⟩, hs⟩ ih
  simp only at hd hp hs ⊢
  unfold F_impl_rings_B F_impl_rings_body
  dsimp only
  cases d with
  | zero =>
    have hlen : o.length = n := by omega
    rw [if_pos (by omega), leastRing1_eq ⟨hlen, hp.1, hp.2⟩ h1 hn hE hl hs]; rfl
  | succ d =>
    rw [if_neg (by omega), cal_of (firstOf_eq hn), cal_of (offR_list hn hp), goR_off]
    have hoff : ∀ v ∈ offR n o, v < n ∧ (v : Int) ∉ o := fun v hv => by
      unfold offR at hv; rw [List.mem_filter, List.mem_range] at hv; exact ⟨hv.1, by simpa using hv.2⟩
    have hll : (offR n o).length ≤ n := by unfold offR; exact Nat.le_trans (List.length_filter_le ..) (by simp)
    obtain ⟨out, hout, hq⟩ := lp_rule (step := fun q : (List Int × Int) × Int => F_impl_rings_l1 (n : Int) o (BitVec.ofNat 32 (mk o)) (fun z0 z1 z2 z3 => R (z0, z1, z2, z3)) (ints (offR n o)) q.1 q.2)
      (fun q => ∃ k : Nat, k ≤ (offR n o).length ∧ q.2 = (k : Int) ∧ q.1.2 ≠ 0 ∧ (((offR n o).drop k).foldl (fun s (v : Nat) => goR E n d (o ++ [(v : Int)]) s) q.1) = (offR n o).foldl (fun s (v : Nat) => goR E n d (o ++ [(v : Int)]) s) s)
      (fun q => (offR n o).length - q.2.toNat)
      (fun out => ∃ t, t = (offR n o).foldl (fun s (v : Nat) => goR E n d (o ++ [(v : Int)]) s) s ∧ ((out = .inl t ∧ t.2 ≠ 0) ∨ (out = .inr (true, t) ∧ t.2 = 0))) (by
        rintro ⟨t, i⟩ ⟨k, hk, rfl, ht, hf⟩
        simp only at ht hf
        by_cases hlt : k < (offR n o).length
        · obtain ⟨hv, hvo⟩ := hoff _ (List.getElem_mem hlt)
          rw [List.drop_eq_getElem_cons hlt, List.foldl_cons] at hf
          have hR := ih (d, o ++ [((offR n o)[k] : Int)], t) ⟨⟨by simp; omega, hp.snoc hv hvo⟩, ht⟩ (by simp only; omega)
          simp only at hR
          have hmk : mk (o ++ [((offR n o)[k] : Int)]) = mk o ||| 2 ^ (offR n o)[k] := by rw [mk_snoc, Int.toNat_natCast]
          have hstep : F_impl_rings_l1 (n : Int) o (BitVec.ofNat 32 (mk o)) (fun z0 z1 z2 z3 => R (z0, z1, z2, z3)) (ints (offR n o)) t (k : Int) = if decide ((goR E n d (o ++ [((offR n o)[k] : Int)]) t).2 = 0) = true then some (.inr (.inr (true, goR E n d (o ++ [((offR n o)[k] : Int)]) t))) else some (.inl (goR E n d (o ++ [((offR n o)[k] : Int)]) t, ((k + 1 : Nat) : Int))) := by
            unfold F_impl_rings_l1
            rw [if_pos (by rw [ints_len]; omega), idx_ints hlt, cal_of (clone64_eq _ (by omega)), app1_s (by omega), cal_of (one_eq (by omega)), bv_or, ← hmk, cal_of hR, ck_of (inI (by omega) (by omega))]; rfl
          rw [hstep]
          by_cases hz : (goR E n d (o ++ [((offR n o)[k] : Int)]) t).2 = 0
          · refine .inr ⟨_, if_pos (by simpa using hz), _, ?_, .inr ⟨rfl, hz⟩⟩
            rw [← hf]
            exact (foldl_same _ _ (fun v => goR_zero _ _ _ hz) _).symm
          · exact .inl ⟨_, if_neg (by simpa using hz), ⟨k + 1, hlt, rfl, hz, hf⟩, by simp only; omega⟩
        · obtain rfl : k = (offR n o).length := by omega
          rw [List.drop_length, List.foldl_nil] at hf
          refine .inr ⟨.inl t, ?_, t, hf, .inl ⟨rfl, ht⟩⟩
          simp only [F_impl_rings_l1]
          rw [if_neg (by rw [ints_len]; omega)]) (s, 0) ⟨0, Nat.zero_le _, rfl, hs, rfl⟩
    obtain ⟨t, rfl, ⟨rfl, hz⟩ | ⟨rfl, hz⟩⟩ := hq
    · rw [hout]
      show some (false, _) = _
      rw [decide_eq_false hz]
    · rw [hout]
      show some (true, _) = _
      rw [decide_eq_true hz]
end
open Classical in
theorem l26Small_eq2 (g : List (List Int)) (hl : ∀ x ∈ g, x.length ≤ 1048576) : F_spec_l26Small g = some (decide (GOk g ∧ g.length ≤ 8)) := by
  unfold F_spec_l26Small
  rw [cal_of (specGraphOk_eq g hl)]
  by_cases hg : GOk g
  · rw [if_pos (by simp [hg])]; congr 1; rw [Bool.eq_iff_iff]; simp [hg]; omega
  · rw [if_neg (by simp [hg])]; simp [hg]
open Classical in
theorem isSmall_eq2 (g : List (List Int)) (hgl : g.length ≤ 1048576) (hl : ∀ x ∈ g, x.length ≤ 1048576) : F_impl_isSmall g = some (decide (GOk g ∧ g.length ≤ 8)) := by
  unfold F_impl_isSmall
  rw [cal_of (implGraphOk_eq g hgl hl)]
  by_cases hg : GOk g
  · rw [if_pos (by simp [hg])]; congr 1; rw [Bool.eq_iff_iff]; simp [hg]; omega
  · rw [if_neg (by simp [hg])]; simp [hg]
/-- the best ring of a graph -/
noncomputable def bestR (g : List (List Int)) : List Int × Int := goR (edges g) g.length (g.length - 1) [0] ([], -1)
theorem partR_zero {n : Nat} (h : 1 ≤ n) : PartR n [0] := ⟨fun x hx => by rw [List.mem_singleton] at hx; omega, by simp⟩
theorem l24Least_eq {g : List (List Int)} (hg : GOk g) : F_spec_l24Least g = some (bestR g) := by
  have h1 := hg.n1; have h16 := hg.n16
  unfold F_spec_l24Least F_spec_l1Size
  rw [cal_of (l1Edges_eq hg), cal_some_eq, cal_of (l24Rings_eq (n := g.length) h16 (fun e he => edges_pair hg he) (edges_len256 hg) (g.length - 1) [0] ([], -1) (by simp; omega) (partR_zero h1))]
  rfl
theorem leastRing_eq {g : List (List Int)} (hg : GOk g) : F_impl_leastRing g = some (bestR g) := by
  have h1 := hg.n1; have h16 := hg.n16
  unfold F_impl_leastRing
  have := rings_eq (n := g.length) h1 h16 (fun e he => edges_pair hg he) (edges_len256 hg) (g.length - 1) [0] ([], -1) (by simp; omega) (partR_zero h1) (by decide)
  rw [show BitVec.ofNat 32 (mk [0]) = 1#32 from by decide] at this
  rw [cal_of (edgesOf_eq hg), cal_of this]
  rfl
theorem goR_len {E : List (List Int)} {n m : Nat} (hl : E.length ≤ 256) : ∀ (d : Nat) (o : List Int) (s : List Int × Int), o.length + d ≤ m → s.1.length ≤ m → -1 ≤ s.2 ∧ s.2 ≤ 65536 → (goR E n d o s).1.length ≤ m ∧ -1 ≤ (goR E n d o s).2 ∧ (goR E n d o s).2 ≤ 65536
  | 0, o, s, h1, h2, h3 => by
    rw [goR]
    refine ⟨?_, leafR_inI hl h3⟩
    unfold leafR
    repeat' split
    all_goals (first | exact h2 | (simp only []; omega))
  | d + 1, o, s, h1, h2, h3 => by
    rw [goR]
    generalize List.range n = l
    induction l generalizing s with
    | nil => exact ⟨h2, h3⟩
    | cons v l ih =>
      rw [List.foldl_cons]
      by_cases hv : (v : Int) ∈ o
      · rw [if_pos hv]; exact ih s h2 h3
      · rw [if_neg hv]
        obtain ⟨k1, k2⟩ := goR_len hl d (o ++ [(v : Int)]) s (by simp; omega) h2 h3
        exact ih _ k1 k2
theorem bestR_small {g : List (List Int)} (hg : GOk g) : (bestR g).1.length ≤ 1048576 := by
  have h1 := hg.n1; have h16 := hg.n16
  exact (goR_len (m := 1048576) (edges_len256 hg) _ _ _ (by simp; omega) (by simp) (by simp)).1
end Go.Proofs.YtkhaolpofeehoaaDoor

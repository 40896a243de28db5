/- Tables over all sets: the value of a set out of those without its least member, and without a neighbour of it. -/
import Derived.Test.YtjcnkijmbjhcnaaCount
namespace Go.Proofs.Ytjcnkijmbjhcnaa
section
variable (a : List Nat) (e0 : Int) (of : Int → List Int → Int)
/-- what the least of s may go with -/
def mates (s : Nat) : List Nat := els (a.getD (low s) 0 &&& sdiff s (2 ^ low s))
def tabF : Nat → Nat → Int
  | 0, _ => e0
  | n + 1, s => if s = 0 then e0 else of (tabF n (sdiff s (2 ^ low s))) ((mates a s).map fun u => tabF n (sdiff (sdiff s (2 ^ low s)) (2 ^ u)))
def tabv (s : Nat) : Int := tabF a e0 of s s
theorem less_rest {s : Nat} (h : s ≠ 0) : sdiff s (2 ^ low s) < s := by rw [← rest_eq h]; exact rest_lt h
theorem tabF_ge : ∀ (n s m : Nat), s ≤ n → s ≤ m → tabF a e0 of n s = tabF a e0 of m s
  | 0, s, m, h, _ => by
    obtain rfl : s = 0 := by omega
    cases m <;> simp [tabF]
  | n + 1, s, 0, _, h => by
    obtain rfl : s = 0 := by omega
    simp [tabF]
  | n + 1, s, m + 1, h1, h2 => by
    unfold tabF
    by_cases h : s = 0
    · rw [if_pos h, if_pos h]
    · rw [if_neg h, if_neg h]
      have hl := less_rest h
      rw [tabF_ge n _ m (by omega) (by omega)]
      congr 1
      refine List.map_congr_left fun u _ => ?_
      have := sdiff_le (sdiff s (2 ^ low s)) (2 ^ u)
      exact tabF_ge n _ m (by omega) (by omega)
theorem tabv_zero : tabv a e0 of 0 = e0 := rfl
theorem tabv_step {s : Nat} (h : s ≠ 0) : tabv a e0 of s = of (tabv a e0 of (sdiff s (2 ^ low s))) ((mates a s).map fun u => tabv a e0 of (sdiff (sdiff s (2 ^ low s)) (2 ^ u))) := by
  have hl := less_rest h
  obtain ⟨m, rfl⟩ : ∃ m, s = m + 1 := ⟨s - 1, by omega⟩
  unfold tabv
  rw [show tabF a e0 of (m + 1) (m + 1) = of (tabF a e0 of m (sdiff (m + 1) (2 ^ low (m + 1)))) ((mates a (m + 1)).map fun u => tabF a e0 of m (sdiff (sdiff (m + 1) (2 ^ low (m + 1))) (2 ^ u))) by
    conv => lhs; unfold tabF
    rw [if_neg h]]
  rw [tabF_ge a e0 of m _ (sdiff (m + 1) (2 ^ low (m + 1))) (by omega) (Nat.le_refl _)]
  congr 1
  refine List.map_congr_left fun u _ => ?_
  have := sdiff_le (sdiff (m + 1) (2 ^ low (m + 1))) (2 ^ u)
  exact tabF_ge a e0 of m _ _ (by omega) (Nat.le_refl _)
end
/-- a table filled below k -/
def tbl (T : Nat → Int) (k N : Nat) : List Int := (List.range k).map T ++ List.replicate (N - k) 0
theorem tbl_len {T : Nat → Int} {k N : Nat} (h : k ≤ N) : (tbl T k N).length = N := by simp [tbl]; omega
theorem tbl_at {T : Nat → Int} {k N s : Nat} (h : s < k) : (tbl T k N)[s]? = some (T s) := by
  unfold tbl; rw [List.getElem?_append_left (by simpa using h)]; simp [h]
theorem tbl_zero {T : Nat → Int} {k N s : Nat} (h : k ≤ s) (hs : s < N) : (tbl T k N)[s]? = some 0 := by
  unfold tbl; rw [List.getElem?_append_right (by simpa using h), List.length_map, List.length_range, List.getElem?_replicate, if_pos (by omega)]
theorem tbl_set {T : Nat → Int} {k N : Nat} (h : k < N) {x : Int} (hx : x = T k) : (tbl T k N).set k x = tbl T (k + 1) N := by
  unfold tbl
  obtain ⟨m, hm⟩ : ∃ m, N - k = m + 1 := ⟨N - k - 1, by omega⟩
  rw [hm, List.replicate_succ, set_app rfl (by simp), List.range_succ, List.map_append, show N - (k + 1) = m by omega, hx]; simp
theorem tbl_full {T : Nat → Int} {N : Nat} : tbl T N N = (List.range N).map T := by simp [tbl]
theorem idx_tbl {β : Type} {T : Nat → Int} {k N s : Nat} {f : Int → Option β} (h : s < k) : idx (tbl T k N) (s : Int) f = f (T s) := idx_of (Int.natCast_nonneg _) (by rw [Int.toNat_natCast]; exact tbl_at h)
theorem card_mono {t s : Nat} (h : ∀ j, t.testBit j = true → s.testBit j = true) : card t ≤ card s := by
  unfold card els
  rw [← List.countP_eq_length_filter, ← List.countP_eq_length_filter]
  exact List.countP_mono_left fun j _ => h j
theorem card_rest {s : Nat} (h : s ≠ 0) (hs : s < 2 ^ 16) : card s = card (sdiff s (2 ^ low s)) + 1 := by rw [card_cons h hs, rest_eq h]
theorem card_pos {s : Nat} (h : s ≠ 0) (hs : s < 2 ^ 16) : 0 < card s := by rw [card_rest h hs]; omega
theorem card_del {s u : Nat} (hu : s.testBit u = true) (hs : s < 2 ^ 16) : card s = card (sdiff s (2 ^ u)) + 1 := by
  have hu16 := bit_lt hs hu
  unfold card els
  have key : ∀ (l : List Nat), l.Nodup → u ∈ l → (l.filter (fun v => s.testBit v)).length = (l.filter (fun v => (sdiff s (2 ^ u)).testBit v)).length + 1 := by
    intro l
    induction l with
    | nil => intro _ h; nomatch h
    | cons x l ih =>
      intro hn hm
      rw [List.nodup_cons] at hn
      by_cases e : x = u
      · subst e
        rw [List.filter_cons, List.filter_cons, if_pos hu, if_neg (by rw [delbit_bit]; simp), List.length_cons]
        congr 2
        apply List.filter_congr
        intro v hv
        rw [delbit_bit]
        have : ¬ x = v := fun e => hn.1 (e ▸ hv)
        simp [this]
      · have hm' : u ∈ l := by
          rcases List.mem_cons.1 hm with q | q
          · exact absurd q.symm e
          · exact q
        have hx : (sdiff s (2 ^ u)).testBit x = s.testBit x := by rw [delbit_bit]; simp [Ne.symm e]
        rw [List.filter_cons, List.filter_cons, hx]
        split
        · rw [List.length_cons, List.length_cons, ih hn.2 hm']
        · exact ih hn.2 hm'
  exact key _ List.nodup_range (List.mem_range.2 hu16)
theorem mates_sub {a : List Nat} {s u : Nat} (h : u ∈ mates a s) : (sdiff s (2 ^ low s)).testBit u = true := by
  have := els_bit h
  rw [Nat.testBit_and, Bool.and_eq_true] at this; exact this.2
theorem mates_len {a : List Nat} {s : Nat} (h : s ≠ 0) (hs : s < 2 ^ 16) : (mates a s).length + 1 ≤ card s := by
  rw [card_rest h hs]
  have : card (a.getD (low s) 0 &&& sdiff s (2 ^ low s)) ≤ card (sdiff s (2 ^ low s)) := card_mono fun j hj => by rw [Nat.testBit_and, Bool.and_eq_true] at hj; exact hj.2
  unfold mates; unfold card at this ⊢; omega
def fact : Nat → Nat
  | 0 => 1
  | n + 1 => (n + 1) * fact n
theorem fact_pos : ∀ n, 0 < fact n
  | 0 => by decide
  | n + 1 => Nat.mul_pos (by omega) (fact_pos n)
theorem fact_mono {m : Nat} : ∀ {n : Nat}, m ≤ n → fact m ≤ fact n
  | 0, h => by obtain rfl : m = 0 := by omega
               exact Nat.le_refl _
  | n + 1, h => by
    rcases Nat.lt_or_eq_of_le h with g | g
    · have := fact_mono (m := m) (n := n) (by omega)
      have h2 := fact_pos n
      have h3 : fact n ≤ (n + 1) * fact n := Nat.le_mul_of_pos_left _ (by omega)
      exact Nat.le_trans this h3
    · subst g; exact Nat.le_refl _
theorem sum_bound {b : Int} (h0 : 0 ≤ b) : ∀ {l : List Int}, (∀ x ∈ l, 0 ≤ x ∧ x ≤ b) → 0 ≤ l.sum ∧ l.sum ≤ l.length * b
  | [], _ => by simp
  | x :: l, h => by
    have h1 := h x (List.mem_cons_self ..)
    have h2 := sum_bound h0 (l := l) (fun y hy => h y (List.mem_cons_of_mem _ hy))
    rw [List.sum_cons, List.length_cons, Int.natCast_add, Int.add_mul]
    simp only [Int.natCast_one, Int.one_mul] at *
    omega
/-- counts stay small -/
theorem tabv_bound (a : List Nat) (of : Int → List Int → Int) (h1 : ∀ w l, 0 ≤ w → (∀ x ∈ l, 0 ≤ x) → 0 ≤ of w l ∧ of w l ≤ w + l.sum) : ∀ s, s < 2 ^ 16 → 0 ≤ tabv a 1 of s ∧ tabv a 1 of s ≤ (fact (card s) : Int) := by
  intro s
  induction s using Nat.strongRecOn with
  | _ s ih =>
    intro hs
    by_cases h : s = 0
    · subst h; rw [tabv_zero, card_zero]; decide
    have hr := less_rest h
    have hr16 : sdiff s (2 ^ low s) < 2 ^ 16 := Nat.lt_trans hr hs
    have hc := card_rest h hs
    have b0 := ih _ hr hr16
    have bm : ∀ x ∈ (mates a s).map (fun u => tabv a 1 of (sdiff (sdiff s (2 ^ low s)) (2 ^ u))), 0 ≤ x ∧ x ≤ (fact (card (sdiff s (2 ^ low s))) : Int) := by
      intro x hx
      obtain ⟨u, hu, rfl⟩ := List.mem_map.1 hx
      have hle := sdiff_le (sdiff s (2 ^ low s)) (2 ^ u)
      have b1 := ih _ (Nat.lt_of_le_of_lt hle hr) (Nat.lt_of_le_of_lt hle hr16)
      have b2 : fact (card (sdiff (sdiff s (2 ^ low s)) (2 ^ u))) ≤ fact (card (sdiff s (2 ^ low s))) := fact_mono (card_mono fun j hj => by rw [sdiff_bit, Bool.and_eq_true] at hj; exact hj.1)
      exact ⟨b1.1, by omega⟩
    rw [tabv_step a 1 of h]
    have h2 := h1 (tabv a 1 of (sdiff s (2 ^ low s))) _ b0.1 (fun x hx => (bm x hx).1)
    have h3 := sum_bound (b := (fact (card (sdiff s (2 ^ low s))) : Int)) (by omega) bm
    have h4 := mates_len (a := a) h hs
    rw [List.length_map] at h3
    refine ⟨h2.1, Int.le_trans h2.2 ?_⟩
    rw [hc]
    have h5 : ((mates a s).length : Int) * (fact (card (sdiff s (2 ^ low s))) : Int) ≤ (card (sdiff s (2 ^ low s)) : Int) * (fact (card (sdiff s (2 ^ low s))) : Int) := Int.mul_le_mul_of_nonneg_right (by omega) (by omega)
    have h6 : ((fact (card (sdiff s (2 ^ low s)) + 1) : Nat) : Int) = (card (sdiff s (2 ^ low s)) : Int) * (fact (card (sdiff s (2 ^ low s))) : Int) + (fact (card (sdiff s (2 ^ low s))) : Int) := by
      show (((card (sdiff s (2 ^ low s)) + 1) * fact (card (sdiff s (2 ^ low s))) : Nat) : Int) = _
      rw [Nat.add_mul, Nat.one_mul, Int.natCast_add, Int.natCast_mul]
    omega
theorem fact16 {n : Nat} (h : n ≤ 16) : fact n ≤ 20922789888000 := Nat.le_trans (fact_mono h) (by decide)
theorem tabv_small (a : List Nat) (of : Int → List Int → Int) (h1 : ∀ w l, 0 ≤ w → (∀ x ∈ l, 0 ≤ x) → 0 ≤ of w l ∧ of w l ≤ w + l.sum) {s : Nat} (hs : s < 2 ^ 16) : 0 ≤ tabv a 1 of s ∧ tabv a 1 of s ≤ 20922789888000 := by
  have h := tabv_bound a of h1 s hs
  have := fact16 (els_len_le s)
  unfold card at h
  omega
end Go.Proofs.Ytjcnkijmbjhcnaa

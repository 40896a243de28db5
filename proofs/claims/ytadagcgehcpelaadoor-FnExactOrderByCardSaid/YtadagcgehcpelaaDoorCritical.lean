/- Right colourings: the search finds one where there is one; a graph without one of its vertices. -/
import Derived.Test.YtadagcgehcpelaaDoorColour
namespace Go.Proofs.YtadagcgehcpelaaDoor
/-- the first n vertices rightly coloured with colours below k -/
def Proper (a : List Nat) (n k : Nat) (f : Nat → Nat) : Prop := (∀ v, v < n → f v < k) ∧ ∀ u v, u < v → v < n → (a.getD v 0).testBit u = true → f u ≠ f v
theorem fits_iff {a : List Nat} {p : List Nat} {c : Nat} : fits a p c = true ↔ ∀ u (h : u < p.length), (a.getD p.length 0).testBit u = true → p[u] ≠ c := by
  unfold fits
  rw [beq_iff_eq]
  constructor
  · intro h u hu hb e
    have : (cls p c &&& a.getD p.length 0).testBit u = false := by rw [h, Nat.zero_testBit]
    rw [Nat.testBit_and, hb, cls_bit, Bool.and_true, decide_eq_false_iff_not, List.getElem?_eq_getElem hu] at this
    exact this (by rw [e])
  · intro h
    apply bits_ext
    intro j
    rw [Nat.testBit_and, Nat.zero_testBit, cls_bit]
    by_cases e : p[j]? = some c
    · obtain ⟨hj, e2⟩ := List.getElem?_eq_some_iff.1 e
      cases e3 : (a.getD p.length 0).testBit j with
      | false => simp
      | true => exact absurd e2 (h j hj e3)
    · simp [e]
theorem search_proper {a : List Nat} {k : Nat} : ∀ {m : Nat} {p : List Nat} {u : Nat} {l : List Nat}, Proper a p.length k (fun v => p.getD v 0) → search a k m p u = some l → Proper a l.length k (fun v => l.getD v 0)
  | 0, p, u, l, hp, h => by cases h; exact hp
  | m + 1, p, u, l, hp, h => by
    rw [search] at h
    obtain ⟨c, hc, e⟩ := List.exists_of_findSome?_eq_some h
    rw [List.mem_range] at hc
    split at e
    · rename_i hf
      rw [fits_iff] at hf
      refine search_proper (p := p ++ [c]) ?_ e
      have h1 : ∀ v, v < p.length → (p ++ [c]).getD v 0 = p.getD v 0 := fun v hv => by simp [List.getElem?_append_left hv]
      have h2 : (p ++ [c]).getD p.length 0 = c := by simp
      rw [List.length_append, List.length_singleton]
      refine ⟨fun v hv => ?_, fun x v hx hv hb => ?_⟩
      · simp only
        rcases Nat.lt_or_ge v p.length with g | g
        · rw [h1 v g]; exact hp.1 v g
        · rw [show v = p.length by omega, h2]; omega
      · simp only
        rcases Nat.lt_or_ge v p.length with g | g
        · rw [h1 v g, h1 x (by omega)]; exact hp.2 x v hx g hb
        · have e1 : v = p.length := by omega
          subst e1
          rw [h2, h1 x hx]
          have := hf x hx hb
          simpa [hx] using this
    · cases e
def swap (x y c : Nat) : Nat := if c = x then y else if c = y then x else c
theorem swap_inj {x y c d : Nat} (h : swap x y c = swap x y d) : c = d := by
  unfold swap at h
  repeat' split at h
  all_goals omega
theorem search_complete {a : List Nat} {k n : Nat} : ∀ {m : Nat} {p : List Nat} {u : Nat} (f : Nat → Nat), p.length + m = n → (∀ c ∈ p, c < u) → u ≤ k → Proper a n k f → (∀ v (h : v < p.length), f v = p[v]) → (search a k m p u).isSome = true
  | 0, p, u, f, _, _, _, _, _ => rfl
  | m + 1, p, u, f, hn, hp, hu, hf, he => by
    -- with a colour among those used, or the next
    have step : ∀ f : Nat → Nat, Proper a n k f → (∀ v (h : v < p.length), f v = p[v]) → f p.length ≤ u → (search a k (m + 1) p u).isSome = true := by
      intro f hf he hl
      have hk := hf.1 p.length (by omega)
      rw [search, List.findSome?_isSome_iff]
      refine ⟨f p.length, List.mem_range.2 (by omega), ?_⟩
      have hfit : fits a p (f p.length) = true := fits_iff.2 fun x hx hb => by rw [← he x hx]; exact hf.2 x _ hx (by omega) hb
      rw [if_pos hfit]
      refine search_complete f (by rw [List.length_append, List.length_singleton]; omega) (fun c hc => ?_) (by omega) hf (fun v hv => ?_)
      · rcases List.mem_append.1 hc with h | h
        · have := hp c h; omega
        · rw [List.mem_singleton.1 h]; omega
      · rw [List.getElem_append]
        split
        · rename_i h; exact he v h
        · rename_i h
          rw [List.length_append, List.length_singleton] at hv
          have e1 : v = p.length := by omega
          subst e1; simp
    rcases Nat.lt_or_ge u (f p.length) with g | g
    · have hk := hf.1 p.length (by omega)
      refine step (fun v => swap u (f p.length) (f v)) ⟨fun v hv => ?_, fun x v hx hv hb => ?_⟩ (fun v hv => ?_) ?_
      · have := hf.1 v hv
        show swap u (f p.length) (f v) < k
        unfold swap; repeat' split
        all_goals omega
      · exact fun h => hf.2 x v hx hv hb (swap_inj h)
      · have h1 := he v hv
        have h2 := hp _ (List.getElem_mem hv)
        simp only [swap]
        rw [h1, if_neg (by omega), if_neg (by omega)]
      · simp only [swap]
        split
        · omega
        · simp
    · exact step f hf he g
theorem chrom_le_iff {a : List Nat} {k : Nat} : chrom a ≤ k ↔ ∃ f, Proper a a.length k f := by
  constructor
  · intro h
    have h1 := search_proper (a := a) (p := []) ⟨fun v hv => (by cases hv), fun u v _ hv => (by cases hv)⟩ (best_eq a)
    rw [(best_len a).1] at h1
    exact ⟨_, fun v hv => Nat.lt_of_lt_of_le (h1.1 v hv) h, h1.2⟩
  · rintro ⟨f, hf⟩
    have h1 := search_complete (p := []) (u := 0) f (show _ + a.length = a.length by simp) (fun c hc => by cases hc) (Nat.zero_le _) hf (fun v hv => by cases hv)
    rcases Nat.lt_or_ge k (chrom a) with g | g
    · rw [chrom_none a g] at h1; cases h1
    · exact g
/-- the graph that some vertices make -/
def ind (a : List Nat) (L : List Nat) : List Nat := L.map fun u => mk (ints ((List.range L.length).filter fun k => (a.getD u 0).testBit (L.getD k 0)))
theorem ind_len (a L : List Nat) : (ind a L).length = L.length := by simp [ind]
theorem ind_bit {a L : List Nat} {i k : Nat} (hi : i < L.length) : ((ind a L).getD i 0).testBit k = (decide (k < L.length) && (a.getD (L.getD i 0) 0).testBit (L.getD k 0)) := by
  have e : (ind a L).getD i 0 = mk (ints ((List.range L.length).filter fun k => (a.getD (L.getD i 0) 0).testBit (L.getD k 0))) := by simp [ind, hi]
  rw [e, mk_bit, Bool.eq_iff_iff, decide_eq_true_iff, Bool.and_eq_true, decide_eq_true_iff]
  constructor
  · rintro ⟨v, hv, rfl⟩
    unfold ints at hv
    obtain ⟨u, hu, rfl⟩ := List.mem_map.1 hv
    rw [List.mem_filter, List.mem_range] at hu
    simpa using hu
  · rintro ⟨h1, h2⟩
    exact ⟨(k : Int), List.mem_map.2 ⟨k, List.mem_filter.2 ⟨List.mem_range.2 h1, h2⟩, rfl⟩, by simp⟩
theorem ind_lt {a L : List Nat} : ∀ i (h : i < (ind a L).length), (ind a L)[i] < 2 ^ L.length := by
  intro i h
  have e : (ind a L)[i] = mk (ints ((List.range L.length).filter fun k => (a.getD (L[i]'(by rwa [ind_len] at h)) 0).testBit (L.getD k 0))) := by simp [ind]
  rw [e]
  refine mk_lt fun v hv => ?_
  unfold ints at hv
  obtain ⟨u, hu, rfl⟩ := List.mem_map.1 hv
  have := List.mem_range.1 (List.mem_filter.1 hu).1
  omega
/-- past a vertex that is left out -/
def past (v j : Nat) : Nat := if j < v then j else j + 1
theorem past_back {n v w : Nat} (hw : w < n) (h : ¬ w = v) : past v (if w < v then w else w - 1) = w := by
  unfold past
  repeat' split
  all_goals omega
/-- all but one -/
def others (n v : Nat) : List Nat := (List.range (n - 1)).map (past v)
theorem others_len (n v : Nat) : (others n v).length = n - 1 := by simp [others]
theorem others_at {n v j : Nat} (h : j < n - 1) : (others n v).getD j 0 = past v j := by simp [others, h]
theorem others_els {n v : Nat} (hn : n ≤ 16) (hv : v < n) : els (sdiff (2 ^ n - 1) (2 ^ v)) = others n v := by
  refine sorted_ext (els_sorted _) ?_ (fun x => ?_)
  · unfold others
    rw [List.pairwise_map]
    exact List.Pairwise.imp (fun {i j} h => by unfold past; split <;> split <;> omega) (List.pairwise_lt_range)
  · have hp : 2 ^ n ≤ 2 ^ 16 := pow16 hn
    have h0 : 0 < 2 ^ n := Nat.two_pow_pos _
    have := sdiff_le (2 ^ n - 1) (2 ^ v)
    rw [mem_els (by omega), delbit_bit, Nat.testBit_two_pow_sub_one]
    unfold others
    rw [List.mem_map]
    constructor
    · intro h
      simp only [Bool.and_eq_true, decide_eq_true_iff, Bool.not_eq_true', decide_eq_false_iff_not] at h
      rcases Nat.lt_or_ge x v with g | g
      · exact ⟨x, List.mem_range.2 (by omega), by unfold past; rw [if_pos g]⟩
      · exact ⟨x - 1, List.mem_range.2 (by omega), by unfold past; rw [if_neg (by omega)]; omega⟩
    · rintro ⟨j, hj, rfl⟩
      rw [List.mem_range] at hj
      simp only [Bool.and_eq_true, decide_eq_true_iff, Bool.not_eq_true', decide_eq_false_iff_not]
      unfold past
      split <;> omega
theorem others_bit {a : List Nat} {v i k : Nat} (hi : i < a.length - 1) (hk : k < a.length - 1) : ((ind a (others a.length v)).getD i 0).testBit k = (a.getD (past v i) 0).testBit (past v k) := by
  rw [ind_bit (by rw [others_len]; exact hi), others_at hi, others_at hk, others_len, decide_eq_true hk, Bool.true_and]
/-- one vertex less: so many colours, or one less -/
theorem chrom_del {a : List Nat} (hA : Sym a) {v : Nat} (hv : v < a.length) : chrom (ind a (others a.length v)) ≤ chrom a ∧ chrom a ≤ chrom (ind a (others a.length v)) + 1 := by
  have hlen : (ind a (others a.length v)).length = a.length - 1 := by rw [ind_len, others_len]
  constructor
  · obtain ⟨f, hf⟩ := chrom_le_iff.1 (Nat.le_refl (chrom a))
    refine chrom_le_iff.2 ⟨fun i => f (past v i), ?_⟩
    rw [hlen]
    refine ⟨fun i hi => hf.1 _ (by unfold past; split <;> omega), fun i j hij hj hb => ?_⟩
    rw [others_bit hj (by omega)] at hb
    exact hf.2 _ _ (by unfold past; split <;> split <;> omega) (by unfold past; split <;> omega) hb
  · obtain ⟨f, hf⟩ := chrom_le_iff.1 (Nat.le_refl (chrom (ind a (others a.length v))))
    rw [hlen] at hf
    refine chrom_le_iff.2 ⟨fun u => if u = v then chrom (ind a (others a.length v)) else f (if u < v then u else u - 1), fun u hu => ?_, fun u w huw hw hb => ?_⟩
    · simp only
      split
      · omega
      · have := hf.1 (if u < v then u else u - 1) (by split <;> omega); omega
    · simp only
      have b1 : ∀ u, u < a.length → u ≠ v → f (if u < v then u else u - 1) < chrom (ind a (others a.length v)) := fun u hu hne => hf.1 _ (by split <;> omega)
      by_cases e1 : u = v
      · rw [if_pos e1, if_neg (by omega)]
        have := b1 w hw (by omega); omega
      · by_cases e2 : w = v
        · rw [if_neg e1, if_pos e2]
          have := b1 u (by omega) e1; omega
        · rw [if_neg e1, if_neg e2]
          refine hf.2 _ _ (by split <;> split <;> omega) (by split <;> omega) ?_
          have p1 : past v (if w < v then w else w - 1) = w := past_back hw e2
          have p2 : past v (if u < v then u else u - 1) = u := past_back (n := a.length) (by omega) e1
          rw [others_bit (by split <;> omega) (by split <;> omega), p1, p2]; exact hb
end Go.Proofs.YtadagcgehcpelaaDoor

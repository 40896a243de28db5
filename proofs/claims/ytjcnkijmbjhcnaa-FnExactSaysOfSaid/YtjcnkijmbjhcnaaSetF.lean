/- What the reference and the program ask of sets of vertices: stable, clique, ruling. -/
import Derived.Test.YtjcnkijmbjhcnaaBitF
namespace Go.Proofs.Ytjcnkijmbjhcnaa
/-- of each vertex in s: so it is -/
def each (n s : Nat) (p : Nat → Bool) : Bool := (List.range n).all fun v => !s.testBit v || p v
theorem each_els {n s : Nat} {p : Nat → Bool} (hn : n ≤ 16) (hs : s < 2 ^ n) : each n s p = (els s).all p := by
  unfold each els
  rw [Bool.eq_iff_iff, List.all_eq_true, List.all_eq_true]
  constructor
  · intro h v hv
    rw [List.mem_filter, List.mem_range] at hv
    have hb := bit_lt hs hv.2
    have := h v (List.mem_range.2 hb)
    rw [hv.2] at this; simpa using this
  · intro h v hv
    rw [List.mem_range] at hv
    by_cases e : s.testBit v = true
    · have := h v (List.mem_filter.2 ⟨List.mem_range.2 (by omega), e⟩)
      simp [this]
    · simp [e]
/-- no two of s are neighbours -/
def stab (a : List Nat) (s : Nat) : Bool := each a.length s fun v => a.getD v 0 &&& s == 0
/-- every two of s are neighbours -/
def clq (a : List Nat) (s : Nat) : Bool := each a.length s fun v => sdiff s (a.getD v 0) == 2 ^ v
/-- s and its neighbours -/
def near (a : List Nat) (s : Nat) : Nat := (els s).foldl (fun b v => b ||| a.getD v 0) s
theorem getD_get {a : List Nat} {v : Nat} (h : v < a.length) : a.getD v 0 = a[v] := by simp [h]
theorem i64_eq {a b : Nat} : ((a : Int) = (b : Int)) ↔ a = b := by omega
theorem els_range {n s : Nat} (hn : n ≤ 16) (hs : s < 2 ^ n) : els s = (List.range n).filter (fun v => s.testBit v) := by
  have h16 : s < 2 ^ 16 := Nat.lt_of_lt_of_le hs (pow16 hn)
  refine sorted_ext (els_sorted s) (List.Pairwise.sublist List.filter_sublist List.pairwise_lt_range) fun x => ?_
  rw [mem_els h16, List.mem_filter, List.mem_range]
  exact ⟨fun h => ⟨bit_lt hs h, h⟩, fun h => h.2⟩
theorem fold_or_lt {a : List Nat} {k : Nat} (hb : ∀ v (h : v < a.length), a[v] < 2 ^ k) : ∀ (l : List Nat) (b : Nat), b < 2 ^ k → l.foldl (fun b v => b ||| a.getD v 0) b < 2 ^ k
  | [], b, h => h
  | v :: l, b, h => by
    rw [List.foldl_cons]
    refine fold_or_lt hb l _ (or_lt h ?_)
    by_cases hv : v < a.length
    · rw [getD_get hv]; exact hb v hv
    · simp [hv, Nat.two_pow_pos]
theorem card_eq_zero {n : Nat} (hn : n < 2 ^ 16) : card n = 0 ↔ n = 0 := by
  refine ⟨fun h => ?_, fun h => by rw [h, card_zero]⟩
  by_cases e : n = 0
  · exact e
  · rw [card_cons e hn] at h; omega
theorem sum_two {f : Nat → Nat} : ∀ {l : List Nat}, l.Nodup → ∀ {u v}, u ∈ l → v ∈ l → u ≠ v → f u + f v ≤ (l.map f).sum
  | [], _, _, _, h, _, _ => nomatch h
  | x :: l, hn, u, v, hu, hv, hne => by
    rw [List.nodup_cons] at hn
    have one : ∀ {l : List Nat} {w}, w ∈ l → f w ≤ (l.map f).sum := by
      intro l
      induction l with
      | nil => intro w h; nomatch h
      | cons y l ih =>
        intro w h
        rw [List.map_cons, List.sum_cons]
        rcases List.mem_cons.1 h with e | e
        · rw [e]; omega
        · have := ih e; omega
    rw [List.map_cons, List.sum_cons]
    rcases List.mem_cons.1 hu with e | e <;> rcases List.mem_cons.1 hv with e' | e'
    · omega
    · rw [e]; have := one e'; omega
    · rw [e']; have := one e; omega
    · have := sum_two (f := f) hn.2 e e' hne; omega
theorem sum_zero {f : Nat → Nat} {l : List Nat} (h : ∀ v ∈ l, f v = 0) : (l.map f).sum = 0 := by
  induction l with
  | nil => rfl
  | cons x l ih => rw [List.map_cons, List.sum_cons, h x (List.mem_cons_self ..), ih (fun v hv => h v (List.mem_cons_of_mem _ hv))]
/-- the pairs that are missing, each told twice -/
def miss (a : List Nat) (s : Nat) : Nat := ((els s).map fun u => card (sdiff (sdiff s (a.getD u 0)) (2 ^ u))).sum
/-- symmetric, no loops -/
structure Sym (a : List Nat) : Prop where
  lt : ∀ v (h : v < a.length), a[v] < 2 ^ a.length
  irr : ∀ v (h : v < a.length), a[v].testBit v = false
  sym : ∀ u v (hu : u < a.length) (hv : v < a.length), a[u].testBit v = a[v].testBit u
theorem nbs_sym {g : List (List Int)} (hg : GOk g) : Sym (nb g) := by
  have hb : ∀ (u v : Nat) (hu : u < g.length), (nb g)[u]'(by rw [nb_len]; exact hu) = mk g[u] := by intro u v hu; simp [nb]
  have hm : ∀ u (hu : u < g.length) v, (mk g[u]).testBit v = decide ((v : Int) ∈ g[u]) := fun u hu v => mk_mem (fun x hx => (hg.row_mem hu hx).1) v
  refine ⟨fun v h => by rw [nb_len]; exact nb_lt hg h, fun v h => ?_, fun u v hu hv => ?_⟩
  · rw [nb_len] at h
    rw [hb v v h, hm v h, decide_eq_false (hg.rows v h).2]
  · rw [nb_len] at hu hv
    rw [hb u v hu, hb v u hv, hm u hu, hm v hv, decide_eq_decide]
    constructor
    · intro h; have := hg.sym u hu _ h (by simpa using hv); simpa using this
    · intro h; have := hg.sym v hv _ h (by simpa using hu); simpa using this
theorem miss_clq {a : List Nat} {s : Nat} (ha : a.length ≤ 16) (hs : s < 2 ^ a.length) (hA : Sym a) : (miss a s / 2 = 0) ↔ clq a s = true := by
  have h16 : s < 2 ^ 16 := Nat.lt_of_lt_of_le hs (pow16 ha)
  unfold clq
  rw [each_els ha hs, List.all_eq_true]
  have inn : ∀ u ∈ els s, (sdiff (sdiff s (a.getD u 0)) (2 ^ u) = 0 ↔ sdiff s (a.getD u 0) = 2 ^ u) := by
    intro u hu
    have hm : u < a.length := bit_lt hs (els_bit hu)
    rw [getD_get hm]
    constructor
    · intro h
      apply bits_ext
      intro j
      have hj : (sdiff (sdiff s a[u]) (2 ^ u)).testBit j = false := by rw [h]; simp
      rw [sdiff_bit, Nat.testBit_two_pow] at hj
      rw [Nat.testBit_two_pow]
      by_cases e : u = j
      · subst e; rw [sdiff_bit, els_bit hu, hA.irr u hm]; simp
      · simp [e] at hj; simp [e, hj]
    · intro h
      rw [h]
      apply bits_ext
      intro j
      rw [sdiff_bit]; simp
  constructor
  · intro h u hu
    rw [beq_iff_eq, ← inn u hu]
    have hm : u < a.length := bit_lt hs (els_bit hu)
    by_cases e : sdiff (sdiff s (a.getD u 0)) (2 ^ u) = 0
    · exact e
    exfalso
    have hlt : sdiff (sdiff s (a.getD u 0)) (2 ^ u) < 2 ^ 16 := sdiff_lt (sdiff_lt h16)
    have hv := low_bit e
    generalize low (sdiff (sdiff s (a.getD u 0)) (2 ^ u)) = v at hv
    have hcu : card (sdiff (sdiff s (a.getD u 0)) (2 ^ u)) ≠ 0 := fun h => e ((card_eq_zero hlt).1 h)
    rw [sdiff_bit, sdiff_bit, Nat.testBit_two_pow, getD_get hm] at hv
    simp only [Bool.and_eq_true, Bool.not_eq_true', decide_eq_false_iff_not] at hv
    obtain ⟨⟨hv1, hv2⟩, hne⟩ := hv
    have hvl : v < a.length := bit_lt hs hv1
    have hve : v ∈ els s := (mem_els h16).2 hv1
    have hcv : card (sdiff (sdiff s (a.getD v 0)) (2 ^ v)) ≠ 0 := fun h => by
      have h0 := (card_eq_zero (sdiff_lt (sdiff_lt h16))).1 h
      have : (sdiff (sdiff s (a.getD v 0)) (2 ^ v)).testBit u = false := by rw [h0]; simp
      rw [sdiff_bit, sdiff_bit, Nat.testBit_two_pow, getD_get hvl, els_bit hu, ← hA.sym u v hm hvl, hv2] at this
      simp [Ne.symm hne] at this
    have h2 := sum_two (f := fun u => card (sdiff (sdiff s (a.getD u 0)) (2 ^ u))) (els_nodup s) hu hve hne
    unfold miss at h
    omega
  · intro h
    unfold miss
    rw [sum_zero (fun u hu => by
      have := h u hu
      rw [beq_iff_eq, ← inn u hu] at this
      rw [this, card_zero])]
end Go.Proofs.Ytjcnkijmbjhcnaa

/- The search for a colouring with few colours: the reference's, vertex by vertex, and the code's, class by class. -/
import Derived.Test.YtadagcgehcpelaaDoorEdges
import Derived.Test.YtadagcgehcpelaaDoorCount
namespace Go.Proofs.YtadagcgehcpelaaDoor
section
variable {S O β : Type}
/-- a loop that looks for the first that a function gives -/
theorem lp_first {step : S → Option (S ⊕ O)} (st : Nat → S) (N : Nat) (f : Nat → Option β) (out : β → O) {o0 : O} {s : S} (hs : s = st 0) (h : ∀ k, k < N → f k = none → step (st k) = some (.inl (st (k + 1))))
    (h' : ∀ k, k < N → ∀ b, f k = some b → step (st k) = some (.inr (out b))) (hN : step (st N) = some (.inr o0)) : lp step s = some (((List.range N).findSome? f).elim o0 out) := by
  subst hs
  cases e : (List.range N).findSome? f with
  | none =>
    rw [List.findSome?_eq_none_iff] at e
    exact lp_upto st N rfl (fun k hk => h k hk (e k (List.mem_range.2 hk))) hN
  | some b =>
    have hex : ∃ k, k < N ∧ (f k).isSome = true := by
      obtain ⟨a, ha, e1⟩ := List.exists_of_findSome?_eq_some e
      exact ⟨a, List.mem_range.1 ha, by rw [e1]; rfl⟩
    obtain ⟨m, ⟨hm, hs⟩, hl⟩ := least_of hex
    obtain ⟨c, hc⟩ := Option.isSome_iff_exists.1 hs
    have hb : ∀ j, j < m → f j = none := fun j hj => by
      cases e2 : f j with
      | none => rfl
      | some x => have := hl j ⟨by omega, by rw [e2]; rfl⟩; omega
    have : c = b := by
      have e3 : (List.range N).findSome? f = some c := by
        rw [show N = m + ((N - m - 1) + 1) by omega, List.range_add, List.findSome?_append, List.findSome?_eq_none_iff.2 (fun x hx => hb x (List.mem_range.1 hx)), List.range_succ_eq_map]
        simp [hc]
      rw [e3] at e; exact Option.some.inj e
    subst this
    exact lp_upto st m rfl (fun k hk => h k (by omega) (hb k hk)) (h' m hm _ hc)
end
/-- the vertices with a colour -/
def cls (p : List Nat) (c : Nat) : Nat := mk (ints ((List.range p.length).filter fun u => decide (p[u]? = some c)))
theorem cls_bit (p : List Nat) (c j : Nat) : (cls p c).testBit j = decide (p[j]? = some c) := by
  unfold cls
  rw [mk_bit, Bool.eq_iff_iff, decide_eq_true_iff, decide_eq_true_iff]
  constructor
  · rintro ⟨v, hv, rfl⟩
    unfold ints at hv
    obtain ⟨u, hu, rfl⟩ := List.mem_map.1 hv
    rw [List.mem_filter, decide_eq_true_iff] at hu
    simpa using hu.2
  · intro h
    have hj : j < p.length := (List.getElem?_eq_some_iff.1 h).1
    exact ⟨(j : Int), List.mem_map.2 ⟨j, List.mem_filter.2 ⟨List.mem_range.2 hj, by simpa using h⟩, rfl⟩, by simp⟩
theorem cls_lt (p : List Nat) (c : Nat) : cls p c < 2 ^ p.length := by
  unfold cls
  refine mk_lt fun v hv => ?_
  unfold ints at hv
  obtain ⟨u, hu, rfl⟩ := List.mem_map.1 hv
  have := List.mem_range.1 (List.mem_filter.1 hu).1
  omega
theorem cls_nil (c : Nat) : cls [] c = 0 := rfl
theorem cls_snoc (p : List Nat) (c d : Nat) : cls (p ++ [d]) c = if c = d then cls p c ||| 2 ^ p.length else cls p c := by
  apply bits_ext
  intro j
  rw [cls_bit]
  have key : (p ++ [d])[j]? = some c ↔ p[j]? = some c ∨ (j = p.length ∧ c = d) := by
    rw [List.getElem?_append]
    split
    · rename_i h
      exact ⟨.inl, fun h' => h'.elim id fun x => by omega⟩
    · rename_i h
      rw [List.getElem?_singleton]
      have e : p[j]? = none := List.getElem?_eq_none (by omega)
      rw [e]
      by_cases e2 : j = p.length
      · subst e2; simp [eq_comm]
      · rw [if_neg (by omega)]; simp [e2]
  split
  · rename_i h
    subst h
    rw [Nat.testBit_or, cls_bit, Nat.testBit_two_pow, Bool.eq_iff_iff, Bool.or_eq_true, decide_eq_true_iff, decide_eq_true_iff, decide_eq_true_iff, key]
    simp [eq_comm]
  · rename_i h
    rw [cls_bit, Bool.eq_iff_iff, decide_eq_true_iff, decide_eq_true_iff, key]
    simp [h]
/-- whether the next vertex may have a colour -/
def fits (a : List Nat) (p : List Nat) (c : Nat) : Bool := cls p c &&& a.getD p.length 0 == 0
/-- the least right colouring with colours below k that goes on from p -/
def search (a : List Nat) (k : Nat) : Nat → List Nat → Nat → Option (List Nat)
  | 0, p, _ => some p
  | m + 1, p, u => (List.range (min (u + 1) k)).findSome? fun c => if fits a p c = true then search a k m (p ++ [c]) (max u (c + 1)) else none
theorem search_len {a : List Nat} {k : Nat} : ∀ {m : Nat} {p : List Nat} {u : Nat} {l : List Nat}, (∀ c ∈ p, c < k) → search a k m p u = some l → l.length = p.length + m ∧ ∀ c ∈ l, c < k
  | 0, p, u, l, hp, h => by cases h; exact ⟨rfl, hp⟩
  | m + 1, p, u, l, hp, h => by
    rw [search] at h
    obtain ⟨c, hc, e⟩ := List.exists_of_findSome?_eq_some h
    rw [List.mem_range] at hc
    split at e
    · have := search_len (p := p ++ [c]) (fun d hd => by
        rcases List.mem_append.1 hd with h | h
        · exact hp d h
        · rw [List.mem_singleton.1 h]; omega) e
      exact ⟨by rw [this.1, List.length_append, List.length_singleton]; omega, this.2⟩
    · cases e
theorem search_some {a : List Nat} {k : Nat} : ∀ {m : Nat} {p : List Nat} {u : Nat}, (∀ c ∈ p, c < u) → u ≤ p.length → p.length + m ≤ k → (search a k m p u).isSome = true
  | 0, p, u, _, _, _ => rfl
  | m + 1, p, u, hp, hu, hk => by
    rw [search, List.findSome?_isSome_iff]
    refine ⟨u, List.mem_range.2 (by omega), ?_⟩
    have hf : fits a p u = true := by
      unfold fits
      have : cls p u = 0 := bits_ext fun j => by
        rw [cls_bit, Nat.zero_testBit, decide_eq_false_iff_not]
        intro h
        have := hp u (List.mem_of_getElem? h)
        omega
      rw [this, Nat.zero_and]; rfl
    rw [if_pos hf]
    exact search_some (p := p ++ [u]) (fun c hc => by
      rcases List.mem_append.1 hc with h | h
      · have := hp c h; omega
      · rw [List.mem_singleton.1 h]; omega) (by rw [List.length_append, List.length_singleton]; omega) (by rw [List.length_append, List.length_singleton]; omega)
/-- the fewest colours -/
def chrom (a : List Nat) : Nat := (List.range (a.length + 1)).findIdx fun k => (search a k a.length [] 0).isSome
theorem chrom_lt (a : List Nat) : (List.range (a.length + 1)).findIdx (fun k => (search a k a.length [] 0).isSome) < (List.range (a.length + 1)).length := by
  refine List.findIdx_lt_length_of_exists ⟨a.length, List.mem_range.2 (by omega), search_some (fun c h => nomatch h) (Nat.le_refl _) ?_⟩
  simp
theorem chrom_le (a : List Nat) : chrom a ≤ a.length := by have := chrom_lt a; rw [List.length_range] at this; unfold chrom; omega
theorem chrom_some (a : List Nat) : ∃ l, search a (chrom a) a.length [] 0 = some l := by
  have h := List.findIdx_getElem (w := chrom_lt a)
  rw [List.getElem_range] at h
  exact Option.isSome_iff_exists.1 h
theorem chrom_none (a : List Nat) {k : Nat} (h : k < chrom a) : search a k a.length [] 0 = none := by
  have h1 := List.not_of_lt_findIdx h
  rw [List.getElem_range] at h1
  simpa using h1
theorem search_zero (a : List Nat) (k m : Nat) (p : List Nat) (u : Nat) : search a 0 (m + 1) p u = none := by rw [search]; simp
theorem chrom_pos {a : List Nat} (h : 0 < a.length) : 0 < chrom a := by
  rcases Nat.eq_zero_or_pos (chrom a) with e | e
  · obtain ⟨l, hl⟩ := chrom_some a
    obtain ⟨m, hm⟩ : ∃ m, a.length = m + 1 := ⟨a.length - 1, by omega⟩
    rw [e, hm, search_zero _ 0] at hl; cases hl
  · exact e
def best (a : List Nat) : List Nat := (search a (chrom a) a.length [] 0).getD []
theorem best_eq (a : List Nat) : search a (chrom a) a.length [] 0 = some (best a) := by obtain ⟨l, hl⟩ := chrom_some a; unfold best; rw [hl]; rfl
theorem best_len (a : List Nat) : (best a).length = a.length ∧ ∀ c ∈ best a, c < chrom a := by
  have := search_len (p := []) (fun c h => by cases h) (best_eq a)
  simpa using this
/-- rows that name vertices -/
structure RowsIn (g : List (List Int)) : Prop where
  n16 : g.length ≤ 16
  row_mem : ∀ {v : Nat} (h : v < g.length) {x : Int}, x ∈ g[v] → 0 ≤ x ∧ x < g.length
  row_len : ∀ {v : Nat} (h : v < g.length), g[v].length ≤ 16
theorem GOk.rowsIn {g : List (List Int)} (hg : GOk g) : RowsIn g := ⟨hg.n16, fun {v} h {x} hx => hg.row_mem h hx, fun {v} h => hg.row_len h⟩
/-- the reference's colours: those behind p have none -/
def csOf (n : Nat) (p : List Nat) : List Int := ints p ++ List.replicate (n - p.length) (-1)
theorem csOf_len {n : Nat} {p : List Nat} (h : p.length ≤ n) : (csOf n p).length = n := by simp [csOf, ints]; omega
theorem csOf_at {n : Nat} {p : List Nat} {u : Nat} (h : p.length ≤ n) (hu : u < n) : (csOf n p)[u]? = some (match p[u]? with | some c => (c : Int) | none => -1) := by
  unfold csOf
  rw [List.getElem?_append, ints_len]
  split
  · rename_i h1; unfold ints; rw [List.getElem?_map, List.getElem?_eq_getElem h1]; rfl
  · rename_i h1; rw [List.getElem?_replicate, if_pos (by omega), List.getElem?_eq_none (by omega)]
theorem csOf_set {n : Nat} {p : List Nat} {c : Nat} (h : p.length < n) : (csOf n p).set p.length (c : Int) = csOf n (p ++ [c]) := by
  unfold csOf
  rw [List.set_append, ints_len, if_neg (by omega), Nat.sub_self, show n - p.length = (n - (p ++ [c]).length) + 1 by simp; omega, List.replicate_succ, List.set_cons_zero]
  simp [ints]
theorem csOf_full {p : List Nat} : csOf p.length p = ints p := by simp [csOf]
theorem bvs_put (l : List Nat) (k x : Nat) : (bvs l).set k (BitVec.ofNat 32 x) = bvs (l.set k x) := by unfold bvs; rw [List.map_set]
theorem ints_put (l : List Nat) (k x : Nat) : (ints l).set k (x : Int) = ints (l.set k x) := by unfold ints; rw [List.map_set]
/-- the code's classes -/
def clss (p : List Nat) (k : Nat) : List Nat := (List.range k).map (cls p)
theorem clss_len (p : List Nat) (k : Nat) : (clss p k).length = k := by simp [clss]
theorem clss_get {p : List Nat} {k c : Nat} (h : c < (clss p k).length) : (clss p k)[c] = cls p c := by simp [clss]
theorem clss_set {p : List Nat} {k c : Nat} (h : c < k) : (clss p k).set c (cls p c ||| 2 ^ p.length) = clss (p ++ [c]) k := by
  refine List.ext_getElem (by simp [clss]) fun i h1 h2 => ?_
  rw [List.getElem_set, clss_get, clss_get, cls_snoc]
  by_cases e : c = i
  · subst e; simp
  · rw [if_neg e, if_neg (Ne.symm e)]
theorem cls_out (p : List Nat) (c : Nat) : (cls p c).testBit p.length = false := by rw [cls_bit]; simp
theorem clss_back {p : List Nat} {k c : Nat} (h : c < k) : (clss (p ++ [c]) k).set c (sdiff (cls (p ++ [c]) c) (2 ^ p.length)) = clss p k := by
  refine List.ext_getElem (by simp [clss]) fun i h1 h2 => ?_
  rw [List.getElem_set, clss_get, clss_get, cls_snoc, if_pos rfl]
  by_cases e : c = i
  · subst e; rw [if_pos rfl]
    apply bits_ext; intro j
    rw [delbit_bit, Nat.testBit_or, Nat.testBit_two_pow]
    by_cases e : p.length = j
    · subst e; rw [cls_out]; simp
    · simp [e]
  · rw [if_neg e, cls_snoc, if_neg (Ne.symm e)]
end Go.Proofs.YtadagcgehcpelaaDoor
